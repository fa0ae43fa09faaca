/- The machine by value: operations, calls, code. -/
import Derived.Test.YtpimmjklbakckaaGreatDoorMc
import Derived.Scope
import Derived.Sort.Grow
import Derived.Deep.Draws
/- Operations that write: append, clear, stores. -/
set_option linter.unusedSimpArgs false
set_option linter.unusedVariables false
open Array renaming getD_eq_getD_getElem? → bh, getElem?_append_left → sP, getElem?_append_right → Hz, getElem?_eq_none → LK, getElem?_eq_some_iff → fk, getElem?_replicate → kP, getElem?_setIfInBounds_ne → hU, replicate → q6
open Bool renaming and_eq_false_iff → Px, and_eq_true → ae, false_eq_true → bp, not_eq_true' → bt, or_eq_false_iff → eC, or_eq_true → dS, true_and → Pw
open Go renaming undef → W4
open Go.Sort renaming grow → J3
open List renaming append_assoc → du, append_nil → ir, drop_eq_nil_of_le → O0, eq_nil_of_length_eq_zero → dI, ext_getElem? → dy, getElem?_append_left → az, getElem?_append_right → aN, getElem?_cons_succ → mS, getElem?_drop → aW, getElem?_eq_getElem → aq, getElem?_eq_none → dW, getElem?_map → cJ, getElem?_of_mem → bz, getElem?_replicate → fY, getElem?_set → aX, getElem?_take → bE, isEmpty_iff → fa, length_append → bC, length_cons → cY, length_nil → fF, length_set → cF, length_take → bj, mem_append → aD, mem_cons → aO, mem_of_getElem? → bf, mem_of_mem_drop → cT, mem_of_mem_take → cS, mem_or_eq_of_mem_set → J1, pairwise_append → Ry, rel_of_pairwise_cons → J0, replicate → aT, take_append_drop → Pq, take_zero → nX
open Nat renaming add_mul → ct, le_refl → aI, lt_of_lt_of_le → fQ, mul_le_mul_right → bN, zero_add → fg, zero_le → Lt, zero_mul → s8
open Option renaming bind_some → W3, getD_some → eZ, isSome_iff_exists → aR, map_some → cj
open Option.some renaming inj → bK, injEq → af
open Prod.mk renaming injEq → aB
namespace Go.Bm
open Go.Am
section
variable {P:Program} {X:Nat->Prop} {φ φ':cZ} {w w':World} {N N':Names} {s s1:St} {Ha Ha':Heap} {t:Nat->Value} {B:Nat->Nat} {base:Nat} {v va:AV} {v':Value} {c:dO} {o:Oper} {a:Act} {kd:Kd}
theorem uz {l:List AV} (h:∀x∈l,x.leaf=true):bq l=true:=by
 induction l with
 |nil=>rfl
 |cons y r ih=>simp only[bq,ae]; exact⟨h y (by simp),ih fun x hx=>h x (by simp[hx])⟩
theorem xn {l:List AV} (h:bq l=true):∀x∈l,x.leaf=true:=by
 induction l with
 |nil=>intro x hx; simp at hx
 |cons y r ih=>
   intro x hx;simp only[bq,ae] at h;rcases aO.1 hx with e|e
   ·subst e; exact h.1
   ·exact ih h.2 x e
theorem yk {k:Nat} {xs:List AV} (h:∀x∈xs,x.cells.length=k) (n:Nat):aA (xs.take n)=(aA xs).take (n*k):=by
 induction xs generalizing n with
 |nil=>simp[aA]
 |cons x r ih=>
   cases n with
   |zero=>simp[aA]
   |succ n=>
     have hx:=h x (by simp);simp only[List.take_succ_cons,aA,ih (fun y hy=>h y (by simp[hy])) n];rw[List.take_append,hx,ct,Nat.one_mul,List.take_of_length_le (by omega:x.cells.length<=n*k+k),Nat.add_sub_cancel]
theorem JB {k:Nat} {xs:List AV} (h:∀x∈xs,x.cells.length=k) (n:Nat):aA (xs.drop n)=(aA xs).drop (n*k):=by
 induction xs generalizing n with
 |nil=>simp[aA]
 |cons x r ih=>
   cases n with
   |zero=>simp
   |succ n=>
     have hx:=h x (by simp);simp only[List.drop_succ_cons,aA,ih (fun y hy=>h y (by simp[hy])) n];rw[List.drop_append,hx,ct,Nat.one_mul,O0 (by omega:x.cells.length<=n*k+k),List.nil_append,Nat.add_sub_cancel]
theorem iQ {k:Nat} {xs:List AV} (h:∀x∈xs,x.cells.length=k):(aA xs).length=xs.length*k:=(gX h).1
theorem Ep (h:er X φ w N s Ha (tm a)) (hg:Am.dH (gb c) X φ w) {k:Nat} {x:E} {o':Operand} (ho:cM o' (kN x)=true) {ys:List AV} (hc:cont s k (aY c s.env x)=some ys) (yd:bq (aA ys)=true) :
  ∃ news,iA Ha k (Am.ev (gb c) (Al N s.env) (kN x))=some (news,ys.length)/\news.length=ys.length*k/\(∀y∈ys,y.cells.length=k)/\bq news=true /\
   ∀ (i:Nat) (d:AV),(aA ys)[i]?=some d->fz d=true/\∃ e,news[i]?=some e/\e.leaf=true/\Le d e:=by
 have hx:=cq (c:=c) (cA:=gb c) h rfl ho;have cX:=hx.ok;have r:=bO (c:=gb c) (env:=Al N s.env) (a:=a) (fun i=>by rw[mE]; exact h.env i) hg ho;rw[hx.ev] at r ⊢;cases e:aY c s.env x<;>rw[e] at hc cX r<;>try (simp[cont] at hc; done)
 ·rename_i k' xs;simp only[cont] at hc;split at hc
  case isFalse=>cases hc
  rename_i tP;subst tP;simp at hc;subst hc;simp only[fV,cC,iA,if_true] at r ⊢
  have mY:(∀y∈xs,y.cells.length=k')/\∀ y∈xs,∀d∈y.cells,pl d=true:=by
   generalize a.eval o'=z at r;cases r with
   |vO _ _ _ ad n cap u hn iP hk hu h=>
     refine⟨hk,fun y hy d hd=>?_⟩;obtain⟨i,hi⟩:=bz hy;obtain⟨j,hj⟩:=bz hd;exact XH (h i j y d hi hj) rfl
   |j7=>exact⟨fun y hy=>by simp at hy,fun y hy=>by simp at hy⟩
  refine⟨aA xs,rfl,iQ mY.1,mY.1,yd,fun i d hd=>?_⟩;obtain⟨i',y,j,h1,h2,_⟩:=(gX mY.1).2 i d hd;have hdl:=xn yd d (bf hd);refine⟨?_,d,hd,hdl,Le.refl _⟩;unfold fz;rw[hdl,mY.2 y (bf h1) d (bf h2)];rfl
 ·rename_i k' xs;have:=hx.eo k' xs e;subst this;simp[cont] at hc;subst hc;exact⟨[],by simp[fV,iA],by simp,fun y hy=>by simp at hy,rfl,fun i d hd=>by simp[aA] at hd⟩
 ·rename_i k' p off len;simp only[cont] at hc;split at hc
  case h_2=>cases hc
  rename_i xX xs hp;split at hc
  case isFalse=>cases hc
  rename_i hcc;obtain⟨rfl,rfl,hle⟩:=hcc;simp at hc;subst hc;have eM:=h.own p xX xs hp;simp only[fV];rcases sZ h cX with⟨n,hn,e2⟩|⟨hn,h0,h1,e2⟩
  ·rw[e2];rw[hn] at eM;obtain⟨cs,c1,c2,c3,c4⟩:=eM
   have hb:off*xX+len*xX<=cs.length:=by
    have:(off+len)*xX<=xs.length*xX:=bN xX hle;rw[ct] at this;omega
   have hys:∀y∈(xs.drop off).take len,y.cells.length=xX:=fun y hy=>c3 y (cT (cS hy));have hl:((xs.drop off).take len).length=len:=by simp; omega
   have idx:∀(i:Nat) (d:AV),(aA ((xs.drop off).take len))[i]?=some d->fz d=true/\∃ e,((cs.drop (off*xX)).take (len*xX))[i]?=some e/\e.leaf=true/\Le d e:=by
    intro i d hd;rw[yk (fun y hy=>c3 y (cT hy)),JB c3,bE] at hd;split at hd
    case isFalse=>cases hd
    rename_i hi;rw[aW] at hd;obtain⟨f1,e,f2,f3,f4⟩:=c4 _ d hd;exact⟨f1,e,by rw[bE,if_pos hi,aW]; exact f2,f3,f4⟩
   refine⟨(cs.drop (off*xX)).take (len*xX),by simp only[iA,c1,hl]; rw[if_pos ⟨trivial,hb⟩],by rw[hl]; simp; omega,hys,uz fun x hx=>?_,idx⟩;obtain⟨i,hi⟩:=bz hx;have bQ:=ak hi;have:i<(aA ((xs.drop off).take len)).length:=by rw[iQ hys,hl]; simp at bQ; omega
   obtain⟨d,hd⟩:=aZ this;obtain⟨_,e,g2,g3,_⟩:=idx i d hd;rw[hi] at g2;cases g2;exact g3
  ·rw[e2];subst h1;exact⟨[],by simp[iA],by simp,fun y hy=>by simp at hy,rfl,fun i d hd=>by simp[aA] at hd⟩
theorem abm (hm:P.follows .mixedOrders=true) (h:SB X φ w B base s (tm a)) (hg:Am.dH (gb c) X φ w) {k k':Nat} {x y:E} (hk:cK P o.op (ku (.app k x y))=true) (zQ:aY c s.env x=.own k' []) {ys:List AV} (hy:cont s k (aY c s.env y)=some ys) (yd:bq (aA ys)=true) (hl:ys.length<=mN) :
  kF P X φ w B base s (.own k ys) o a:=by
 obtain⟨N,Ha,h,hb⟩:=h;obtain⟨⟨o1,h1⟩,o2,h2⟩:=UF hk;have hx:=cq (c:=c) (cA:=gb c) h rfl h1;obtain⟨news,n1,n2,n3,n4,n5⟩:=Ep h hg h2 hy yd;by_cases h0:ys.length=0
 ·have:ys=[]:=dI h0;subst this;refine kF.of (kC (va:=.dp) (Ha':=Ha) hm h hg hk (by simp only[ku,fu,n1,hx.ev,zQ,fV,fF,if_true]; rfl)) fun v' w' φ' r hh ad=>?_;exact dQ.quiet (h.nO ad hh h.own (fun _ _=>rfl)) hb trivial (by simp[EO]) r
 ·refine kF.of (kC (va:=.sl k Ha.length 0 ys.length) (Ha':=Ha++[some news]) hm h hg hk (by simp only[ku,fu,n1,hx.ev,zQ,fV,if_neg h0,if_pos (⟨hl,n4⟩:ys.length<=mN/\bq news=true)]; rfl)) fun v' w' φ' r hh ad=>?_;exact Bi h hb ad hh (by omega) n3 n5 r
theorem abl (hm:P.follows .mixedOrders=true) (h:SB X φ w B base s (tm a)) (hg:Am.dH (gb c) X φ w) {k len:Nat} {x y:E} (hk:cK P o.op (ku (.app k x y))=true) {p:Rt} {xs:List AV} (zQ:aY c s.env x=.dz k p 0 len) (hp:au s p=some (k,xs)) (hle:len<=xs.length) {ys:List AV} (hy:cont s k (aY c s.env y)=some ys) (yd:bq (aA ys)=true) (hl:len+ys.length<=mN) :
  kF P X φ w B base (setAt (cm (sw p) s) p .any) (.own k (xs.take len++ys)) o a:=by
 obtain⟨N,Ha,h,hb⟩:=h;obtain⟨⟨o1,h1⟩,o2,h2⟩:=UF hk;have hx:=cq (c:=c) (cA:=gb c) h rfl h1;have cX:=hx.ok;rw[zQ] at cX;obtain⟨news,n1,n2,n3,n4,n5⟩:=Ep h hg h2 hy yd;obtain⟨d1,d2,d3⟩:=h.drop hp;have Be:(∀b,b<base->N.β b=B b)/\base<=(setAt (cm (sw p) s) p .any).H.length:=⟨hb.1,by rw[d3.len]; exact hb.2⟩;have eM:=h.own p k xs hp;rcases sZ h cX with⟨n,hn,e2⟩|⟨hn,_,N0,e2⟩
 ·rw[hn] at eM;obtain⟨cs,c1,c2,c3,c4⟩:=eM;have KM:len*k<=cs.length:=Nat.le_trans (bN k hle) c2;have hnlt:=dx c1;refine kF.of (kC (va:=.sl k Ha.length 0 (len+ys.length)) (Ha':=Ha.set n none++[some (cs.take (len*k)++news)]) hm h hg hk (by simp only[ku,fu,n1,hx.ev,zQ,fV,e2,s8,c1,if_pos (⟨trivial,KM,hl,n4⟩:True/\len*k<=cs.length/\len+ys.length<=mN/\bq news=true)]; rfl)) fun v' w' φ' r hh ad=>?_;have DV:∀m,m≠n->aJ (Ha.set n none) m=aJ Ha m:=fun m Ej=>by unfold aJ; rw[List.getElem?_set_ne (Ne.symm Ej)]
  have j9:∀m,m≠n->m<Ha.length->aJ (Ha.set n none++[some (cs.take (len*k)++news)]) m=aJ Ha m:=fun m Ej bQ=>by
   rw[fH,if_neg (by simp; omega),DV m Ej]
  have gI:er X φ' w' N (setAt (cm (sw p) s) p .any) (Ha.set n none++[some (cs.take (len*k)++news)]) (tm a):=by
   refine d1.nO ad hh (fun q k' zs e=>?_) (fun b Dx=>?_)
   ·have e':=e;rw[d2] at e';split at e'
    ·cases e'
    rename_i oU;refine (d1.own q k' zs e).same fun m hmq=>j9 m ?_ ?_
    ·rintro rfl;exact oU (h.inj q p m (by rw[e']; rfl) (by rw[hp]; rfl) hmq hn)
    ·exact h.gU (by rw[e']; rfl) hmq
   ·have KR:(aJ s.H b).isSome:=by
     cases e:aJ s.H b with
     |none=>rw[d3.DR b e] at Dx; cases Dx
     |some _=>rfl
    refine j9 _ ?_ (h.sY KR);intro e;exact h.bx b p KR (by rw[hp]; rfl) (by rw[hn,e])
  have N3:(xs.take len++ys).length=len+ys.length:=by simp; omega
  have htk:∀z∈xs.take len,z.cells.length=k:=fun z hz=>c3 z (cS hz);refine dQ.fresh gI Be (n:=Ha.length) ⟨cs.take (len*k)++news,by rw[fH,if_pos (by simp)],?_,?_,?_⟩ (fun q hq e=>?_) (fun b Dx e=>?_) (by rw[N3]; exact r)
  ·rw[N3,ct,bC,bj,n2]; omega
  ·intro z hz;rcases aD.1 hz with hz|hz
   ·exact htk z hz
   ·exact n3 z hz
  ·intro i d hd;rw[jV,yk c3] at hd
   have hlt1:((aA xs).take (len*k)).length=len*k:=by
    have:=iQ c3;have:len*k<=xs.length*k:=bN k hle;rw[bj]; omega
   rw[List.getElem?_append] at hd;rw[hlt1] at hd;split at hd
   ·rename_i hi;rw[bE,if_pos hi] at hd;obtain⟨f1,e,f2,f3,f4⟩:=c4 i d hd;exact⟨f1,e,by rw[az (by simp; omega),bE,if_pos hi]; exact f2,f3,f4⟩
   ·rename_i hi;obtain⟨f1,e,f2,f3,f4⟩:=n5 _ d hd;refine⟨f1,e,?_,f3,f4⟩;rw[aN (by simp; omega)];rw[bj,Nat.min_eq_left KM];exact f2
  ·have hq':(au s q).isSome:=by
    rw[d2] at hq;split at hq
    ·cases hq
    ·exact hq
   have:=h.gU hq' e;omega
  ·have KR:(aJ s.H b).isSome:=by
    cases e:aJ s.H b with
    |none=>rw[d3.DR b e] at Dx; cases Dx
    |some _=>rfl
   have:=h.sY KR;omega
 ·rw[hn] at eM;have hxs:xs=[]:=eM;subst hxs;subst N0
  have simq:∀{φ' w' Ha'},eW φ w φ' w'->bV X φ' w' Ha'->(∀m,m<Ha.length->aJ Ha' m=aJ Ha m)->er X φ' w' N (setAt (cm (sw p) s) p .any) Ha' (tm a):=by
   intro φ' w' Ha' ad hh j9;refine d1.nO ad hh (fun q k' zs e=>?_) (fun b Dx=>?_)
   ·exact (d1.own q k' zs e).same fun m hmq=>j9 m (d1.gU (by rw[e]; rfl) hmq)
   ·exact j9 _ (d1.sY Dx)
  by_cases h0:ys.length=0
  ·have:ys=[]:=dI h0;subst this;refine kF.of (kC (va:=.dp) (Ha':=Ha) hm h hg hk (by simp only[ku,fu,n1,hx.ev,zQ,fV,e2,fF,if_true]; rfl)) fun v' w' φ' r hh ad=>?_;exact dQ.quiet (simq ad hh fun _ _=>rfl) Be trivial (by simp[EO]) r
  ·have Wm:ys.length<=mN:=by omega
   refine kF.of (kC (va:=.sl k Ha.length 0 ys.length) (Ha':=Ha++[some news]) hm h hg hk (by simp only[ku,fu,n1,hx.ev,zQ,fV,e2,if_neg h0,if_pos (⟨Wm,n4⟩:ys.length<=mN/\bq news=true)]; rfl)) fun v' w' φ' r hh ad=>?_;have gI:=simq ad hh fun m bQ=>by rw[fH,if_neg (by omega)]
   refine dQ.fresh gI Be (n:=Ha.length) ⟨news,Hc _ _,by simp; omega,by simpa using n3,by simpa using n5⟩ (fun q hq e=>?_) (fun b Dx e=>?_) (by simpa using r)
   ·have:=d1.gU hq e; omega
   ·have:=d1.sY Dx; omega
end
end Go.Bm

/- Stores and clearing. -/
namespace Go.Bm
open Go.Am
mutual
theorem TC {o o':Rt->Option (Nat × List AV)} {nb:Nat} (ho:∀p k xs,o p=some (k,xs)->∃ys,o' p=some (k,ys)/\xs.length<=ys.length):∀x,cB o nb x->cB o' nb x
 |.dz k p off len,h=>by simp only[cB] at h ⊢; obtain⟨xs,e,h2⟩:=h; obtain⟨ys,e2,h3⟩:=ho p k xs e; exact⟨ys,e2,by omega⟩
 |.eV k p i off,h=>by simp only[cB] at h ⊢; obtain⟨xs,e,h2⟩:=h; obtain⟨ys,e2,h3⟩:=ho p k xs e; exact⟨ys,e2,by omega⟩
 |.ptr b off,h=>h
 |.agg cs,h=>by simp only[cB] at h ⊢; exact AN ho cs h
 |.dF cs,h=>by simp only[cB] at h ⊢; exact AN ho cs h
 |.func f a b,h=>by simp only[cB] at h ⊢; exact⟨AN ho a h.1,AN ho b h.2.1,h.2.2⟩
 |.any,_=>trivial
 |.undef,_=>trivial
 |.fo,_=>trivial
 |.fv,_=>trivial
 |.dp,_=>trivial
 |.int _ _,_=>trivial
 |.bool _,_=>trivial
 |.str _,_=>trivial
 |.list _ _,_=>trivial
 |.dh _,_=>trivial
 |.own _ _,_=>trivial
 |.sl _ _ _ _,h=>h
theorem AN {o o':Rt->Option (Nat × List AV)} {nb:Nat} (ho:∀p k xs,o p=some (k,xs)->∃ys,o' p=some (k,ys)/\xs.length<=ys.length):∀cs,jZ o nb cs->jZ o' nb cs
 |[],_=>trivial
 |x::r,h=>⟨TC ho x h.1,AN ho r h.2⟩
end
theorem kK {l vs:List AV} {off:Nat} (h:off+vs.length<=l.length) (m:Nat):(iZ l off vs)[m]?=if m<off then l[m]? else if m<off+vs.length then vs[m-off]? else l[m]?:=by
 unfold iZ;have h1:(l.take off).length=off:=by simp; omega
 by_cases a:m<off
 ·rw[if_pos a,du,az (by omega),bE,if_pos a]
 ·rw[if_neg a];by_cases b:m<off+vs.length
  ·rw[if_pos b,du,aN (by omega),h1,az (by omega)]
  ·rw[if_neg b,aN (by simp; omega),aW];congr 1;simp; omega
section
variable {P:Program} {X:Nat->Prop} {φ φ':cZ} {w w':World} {N N':Names} {s s1:St} {Ha Ha':Heap} {t:Nat->Value} {B:Nat->Nat} {base:Nat} {v va:AV} {v':Value} {c:dO} {o:Oper} {a:Act} {kd:Kd}
theorem aaL {p:Rt} {k:Nat} {xs xs':List AV} (hp:au s p=some (k,xs)) (hl:xs'.length=xs.length) (i:Nat):jY N i (get (setAt s p (.own k xs')).env i)=jY N i (get s.env i):=by
 have vU:=bY.1 hp;cases p with
 |s j=>
   simp only[at_,af] at vU;simp only[setAt,bD];by_cases e:i=j
   ·subst e; rw[if_pos rfl,vU]; simp only[jY,iJ,hl]
   ·rw[if_neg e]
 |sc j l=>
   simp only[at_] at vU;cases hg:get s.env j<;>rw[hg] at vU<;>simp at vU
   rename_i ds;have hs:setAt s (.sc j l) (.own k xs')=⟨put s.env j (.agg (ds.set l (.own k xs'))),s.H⟩:=by simp[setAt,hg]
   rw[hs];simp only[bD];by_cases e:i=j
   ·subst e;rw[if_pos rfl,hg];simp only[jY];congr 1;apply dy;intro m;rw[fE,fE,aX];by_cases hm:l=m
    ·subst hm;rw[if_pos rfl,if_pos (ak vU),vU];simp only[cj,iJ,hl]
    ·rw[if_neg hm]
   ·rw[if_neg e]
 |c b l=>
   simp only[at_] at vU;cases hg:aJ s.H b<;>rw[hg] at vU<;>simp at vU
   simp[setAt,hg]
theorem er.upd (h:er X φ w N s Ha t) {p:Rt} {k n:Nat} {xs xs':List AV} (hp:au s p=some (k,xs)) (hn:N.ν p=some n) (hl:xs'.length=xs.length) (ad:eW φ w φ' w') (hh:bV X φ' w' Ha') (ho:qV Ha' (some n) k xs') (hb:∀m,m≠n->aJ Ha' m=aJ Ha m) :
  er X φ' w' N (setAt s p (.own k xs')) Ha' t/\Shape s (setAt s p (.own k xs')):=by
 have vU:=bY.1 hp;have oV:Fits s p (.own k xs'):=⟨(fun cs e=>by cases e),_,vU,(fun cs e=>by cases e)⟩;have iO:=Shape.set oV;generalize NX:setAt s p (.own k xs')=s' at iO ⊢
 have own:∀q,au s' q=if q=p then some (k,xs') else au s q:=by
  refine xQ iO (fun q hq=>?_) (fun q hq=>?_)
  ·have e:at_ s' q=if q=p then some (.own k xs') else at_ s q:=by rw[<-NX]; exact CE oV hq
   by_cases oU:q=p
   ·rw[if_pos oU] at e ⊢; exact bY.2 e
   ·rw[if_neg oU] at e ⊢; exact gN e
  ·rw[if_neg (by rintro rfl; exact hq (FV (by rw[hp]; rfl)))];exact tr hq
 have hlen:∀q k' ys,au s q=some (k',ys)->∃zs,au s' q=some (k',zs)/\ys.length<=zs.length:=by
  intro q k' ys e;rw[own];by_cases oU:q=p
  ·subst oU;rw[hp] at e;cases e;exact⟨xs',by rw[if_pos rfl],by omega⟩
  ·exact⟨ys,by rw[if_neg oU]; exact e,aI _⟩
 have oiff:∀{q},(au s' q).isSome->(au s q).isSome:=by
  intro q hq;rw[own] at hq;by_cases oU:q=p
  ·subst oU; rw[hp]; rfl
  ·rw[if_neg oU] at hq; exact hq
 have biff:∀{b},(aJ s'.H b).isSome->(aJ s.H b).isSome:=by
  intro b hb;cases e:aJ s.H b with
  |none=>rw[iO.DR b e] at hb; cases hb
  |some _=>rfl
 have okk:∀r y,Lf s' r->at_ s' r=some y->cB (au s') s'.H.length y:=by
  intro r y hr hy;obtain⟨vw,x,hx⟩:=iO.back hr hy;have e:at_ s' r=if r=p then some (.own k xs') else at_ s r:=by rw[<-NX]; exact CE oV vw
  rw[e] at hy;by_cases DW:r=p
  ·rw[if_pos DW] at hy; cases hy; trivial
  ·rw[if_neg DW] at hy;rw[iO.len];exact TC hlen y (h.AM hy)
 obtain⟨hk,hkc⟩:=F0 okk;refine⟨⟨fun i=>?_,hk,hh,fun q k' ys e=>?_,fun b cs e=>?_,fun q r m e1 e2 e3 e4=>h.inj q r m (oiff e1) (oiff e2) e3 e4,fun b q e1 e2 e3=>h.bx b q (biff e1) (oiff e2) e3,fun b d e1 e2 e3=>h.bi b d (biff e1) (biff e2) e3⟩,iO⟩
 ·rw[<-NX,aaL hp hl]; exact ad.rep (h.env i)
 ·rw[own] at e;by_cases oU:q=p
  ·subst oU;rw[if_pos rfl] at e;cases e;rw[hn];exact ho
  ·rw[if_neg oU] at e;refine (h.own q k' ys e).same fun m hm=>hb m ?_;rintro rfl;exact oU (h.inj q p m (by rw[e]; rfl) (by rw[hp]; rfl) hm hn)
 ·cases KR:aJ s.H b with
  |none=>rw[iO.DR b KR] at e; cases e
  |some Xg=>
    obtain⟨ds,q1,q2⟩:=iO.box b Xg KR;rw[e] at q1; cases q1;obtain⟨as,g1,g2,g3⟩:=h.box b Xg KR;refine⟨as,?_,by omega,fun j d hd=>⟨hkc b cs e j d hd,?_⟩⟩
    ·rw[hb]
     ·exact g1
     ·intro e3; exact h.bx b p (by rw[KR]; rfl) (by rw[hp]; rfl) (by rw[hn,e3])
    ·obtain⟨d0,hd0⟩:=aZ (l:=Xg) (i:=j) (by have:=ak hd; omega);obtain⟨_,a',a1,a2⟩:=g3 j d0 hd0;refine⟨a',a1,?_⟩;have e3:at_ s' (.c b j)=if Rt.c b j=p then some (.own k xs') else at_ s (.c b j):=by rw[<-NX]; exact CE oV (fun i e=>by cases e)
     rw[xh e,xh KR,hd,hd0] at e3;by_cases DW:Rt.c b j=p
     ·rw[if_pos DW] at e3;cases e3
      have hat':d0=.own k xs:=by
       rw[<-DW,xh KR,hd0] at vU;exact bK vU
      subst hat';simp only[iJ,hl] at a2 ⊢;exact a2
     ·rw[if_neg DW] at e3;cases e3;exact a2
theorem PD {k off:Nat} {x:AV} {vs:List AV} (hx:x.cells.length=k) (hf:off+vs.length<=k):(LO k x off vs).cells=iZ x.cells off vs:=by
 unfold LO;split
 ·rename_i h;rw[tF];obtain⟨rfl,hl⟩:=h;unfold iZ;rw[O0 (by omega)];simp
 ·rw[tF]
theorem RE:∀{cs:List AV},K0 cs=true->gM N cs=cs
 |[],_=>rfl
 |x::r,h=>by
   simp only[K0,ae] at h;simp only[gM];rw[RE h.2];have:=(lG h.1).1;congr 1;cases x<;>first|exact kg N _ this|(simp[pl] at this; done)
theorem aeO (hm:P.follows .mixedOrders=true) (h:SB X φ w B base s (tm a)) (hg:Am.dH (gb c) X φ w) {k k' i off:Nat} {x y:E} {p:Rt} {xs:List AV} {u:AV} (hk:cK P o.op (ku (.st k x y))=true) (zQ:aY c s.env x=.eV k' p i off) (hp:au s p=some (k',xs)) (hu:xs[i]?=some u)
  (h1:(aY c s.env y).cells.length=k) (h2:off+k<=k') (h3:K0 (aY c s.env y).cells=true):kF P X φ w B base (setAt s p (.own k' (xs.set i (LO k' u off (aY c s.env y).cells)))) .undef o a:=by
 obtain⟨N,Ha,h,hb⟩:=h;obtain⟨⟨o1,c1⟩,o2,c2⟩:=afJ hk;have hx:=cq (c:=c) (cA:=gb c) h rfl c1;have hy:=cq (c:=c) (cA:=gb c) h rfl c2;have cX:=hx.ok;rw[zQ] at cX;obtain⟨n,hn,e2⟩:=FN h cX;have eM:=h.own p k' xs hp;rw[hn] at eM;obtain⟨cs,q1,q2,q3,q4⟩:=eM;generalize LA:(aY c s.env y).cells=vs at h1 h3 ⊢;have mY:(Am.ev (gb c) (Al N s.env) (kN y)).cells=vs:=by rw[hy.ev,G4 N hy.na,LA,RE h3]
 have yd:bq vs=true:=uz fun z hz=>(lG (nU h3 z hz)).2;have huk:u.cells.length=k':=q3 u (bf hu);have hilt:=ak hu;have vT:(i+1)*k'<=xs.length*k':=bN k' hilt;rw[ct] at vT;have oV:i*k'+off+k<=cs.length:=by omega
 refine kF.of (kC (va:=.undef) (Ha':=Ha.set n (some (iZ cs (i*k'+off) vs))) hm h hg hk (by simp only[ku,fu,hx.ev,zQ,fV,e2,q1,mY,if_pos (⟨h1,oV,yd⟩:vs.length=k/\i*k'+off+k<=cs.length/\bq vs=true)]; rfl)) fun v' w' φ' r hh ad=>?_;have QD:=PD (k:=k') (off:=off) (vs:=vs) huk (by omega)
 have ZF:qV (Ha.set n (some (iZ cs (i*k'+off) vs))) (some n) k' (xs.set i (LO k' u off vs)):=by
  refine⟨iZ cs (i*k'+off) vs,by rw[di,if_pos ⟨rfl,dx q1⟩],?_,?_,?_⟩
  ·rw[cF,fS (by omega)]; exact q2
  ·intro z hz;rcases J1 hz with hz|rfl
   ·exact q3 z hz
   ·rw[QD,fS (by omega),huk]
  ·have adQ:∀z∈xs.set i (LO k' u off vs),z.cells.length=k':=by
    intro z hz;rcases J1 hz with hz|rfl
    ·exact q3 z hz
    ·rw[QD,fS (by omega),huk]
   intro m d hd;obtain⟨i',z,j,z1,z2,z3⟩:=(gX adQ).2 m d hd;have hj:j<k':=by rw[<-adQ z (bf z1)]; exact ak z2
   rw[aX] at z1;by_cases hii:i=i'
   ·subst hii;rw[if_pos rfl,if_pos hilt] at z1;cases z1;rw[QD,kK (by omega)] at z2
    have HQ:u.cells[j]?=some d->j<off\/¬ j<off+vs.length->fz d=true/\∃ e,(iZ cs (i*k'+off) vs)[m]?=some e/\e.leaf=true/\Le d e:=by
     intro e hc;obtain⟨f1,e',f2,f3,f4⟩:=q4 _ d (Bj q3 hu e);refine⟨f1,e',?_,f3,f4⟩;rw[z3,kK (by omega)];rcases hc with hc|hc
     ·rw[if_pos (by omega)]; exact f2
     ·rw[if_neg (by omega),if_neg (by omega)]; exact f2
    split at z2
    ·rename_i hc; exact HQ z2 (.inl hc)
    ·split at z2
     ·rename_i Pf El;have hz:=nU h3 d (bf z2);refine⟨hz,d,?_,(lG hz).2,Le.refl _⟩;rw[z3,kK (by omega),if_neg (by omega),if_pos (by omega),show i*k'+j-(i*k'+off)=j-off by omega];exact z2
     ·rename_i Pf El; exact HQ z2 (.inr El)
   ·rw[if_neg hii] at z1;obtain⟨f1,e',f2,f3,f4⟩:=q4 _ d (Bj q3 z1 z2);refine⟨f1,e',?_,f3,f4⟩;rw[z3,kK (by omega)];rcases Nat.lt_or_gt_of_ne hii with bQ|hgt
    ·have:(i+1)*k'<=i'*k':=bN k' bQ;rw[ct] at this;rw[if_neg (by omega),if_neg (by omega)];exact f2
    ·have:(i'+1)*k'<=i*k':=bN k' hgt;rw[ct] at this;rw[if_pos (by omega)];exact f2
 obtain⟨gI,iO⟩:=h.upd (xs':=xs.set i (LO k' u off vs)) hp hn (by simp) ad hh ZF (fun m Ej=>by rw[di,if_neg (fun e=>Ej e.1)]);exact dQ.quiet gI ⟨hb.1,by rw[iO.len]; exact hb.2⟩ trivial trivial r
end
end Go.Bm

/- Stores into boxes. -/
namespace Go.Bm
open Go.Am
section
variable {P:Program} {X:Nat->Prop} {φ φ':cZ} {w w':World} {N N':Names} {s s' s1:St} {Ha Ha':Heap} {t t':Nat->Value} {B:Nat->Nat} {base:Nat} {v va:AV} {v':Value} {c:dO} {o:Oper} {a:Act} {kd:Kd}
theorem tu (i b off:Nat):∀k p x l,iN i b off (.dz k p x l)=.dz k (ik i b off p) x l/\iN i b off (.eV k p x l)=.eV k (ik i b off p) x l:=fun _ _ _ _=>⟨rfl,rfl⟩
theorem xH (N:Names) (i:Nat) (v:AV):(jY N i v).cells.length=v.cells.length/\∀ (j:Nat) (d:AV),v.cells[j]?=some d->(jY N i v).cells[j]?=some (iJ N (match v with
  |.agg _=>.sc i j
  |_=>.s i) d):=by
 by_cases ha:∃cs,v=.agg cs
 ·obtain⟨cs,rfl⟩:=ha;simp only[jY,AV.cells];exact⟨fR _ _ _ _,fun j d hd=>by rw[fE,hd]; simp⟩
 ·have hn:jd v:=fun cs e=>ha ⟨cs,e⟩;have e1:jY N i v=iJ N (.s i) v:=by cases v<;>first|rfl|exact absurd rfl (hn _)
  have e2:v.cells=[v]:=by cases v<;>first|rfl|exact absurd rfl (hn _)
  have e3:(iJ N (.s i) v).cells=[iJ N (.s i) v]:=by
   cases v<;>first
    |rfl
    |exact absurd rfl (hn _)
    |(rename_i k xs; simp only[iJ,rA]; cases N.ν (.s i)<;>rfl)
    |(rename_i k p x l; simp only[iJ,cC]; cases N.ν p<;>rfl)
  rw[e1,e2,e3];refine⟨rfl,fun j d hd=>?_⟩;cases j with
  |zero=>
    simp at hd;subst hd;cases v<;>first|rfl|exact absurd rfl (hn _)
  |succ j=>simp at hd
theorem Gh {g:AV->AV} (hg:jO g) (v:AV):(cD g v).cells=cO g v.cells:=by
 by_cases ha:∃cs,v=.agg cs
 ·obtain⟨cs,rfl⟩:=ha;simp[cD,AV.cells]
 ·have hn:jd v:=fun cs e=>ha ⟨cs,e⟩;have hn2:=lx hg hn;have e2:v.cells=[v]:=by cases v<;>first|rfl|exact absurd rfl (hn _)
  rw[e2];simp only[cO];generalize cD g v=y at hn2;cases y<;>first|rfl|exact absurd rfl (hn2 _)
def rQ (i:Nat) (v:AV) (j:Nat):Rt:=
 match v with
 |.agg _=>.sc i j
 |_=>.s i
theorem WY {i:Nat} {j:Nat} {d:AV} (h:(get s.env i).cells[j]?=some d):at_ s (rQ i (get s.env i) j)=some d:=by
 by_cases ha:∃cs,get s.env i=.agg cs
 ·obtain⟨cs,e⟩:=ha;rw[e] at h ⊢;simp only[rQ];rw[Hf e];exact h
 ·have hn:jd (get s.env i):=fun cs e=>ha ⟨cs,e⟩
  have e2:(get s.env i).cells=[get s.env i]:=by
   generalize get s.env i=v at hn;cases v<;>first|rfl|exact absurd rfl (hn _)
  have e3:rQ i (get s.env i) j=.s i:=by
   generalize get s.env i=v at hn;cases v<;>first|rfl|exact absurd rfl (hn _)
  rw[e2] at h;rw[e3];cases j with
  |zero=>simp at h; rw[<-h]; rfl
  |succ j=>simp at h
theorem er.acO (h:er X φ w N s Ha t) {i b off k:Nat} {cs as:List AV} (hb:aJ s.H b=some cs) (has:aJ Ha (N.β b)=some as) (hk:(get s.env i).cells.length=k) (oV:off+k<=cs.length)
  (hC:∀r x,at_ s r=some x->∀p∈aK x,cP b off k p=false)
  (ad:eW φ w φ' w') (hh:bV X φ' w' (Ha.set (N.β b) (some (iZ as off (jY N i (get s.env i)).cells))))
  (he:∀j,get s'.env j=if j=i then .any else cD (iN i b off) (get s.env j)) (hH:s'.H=(fJ (iN i b off) s.H).set b (some (iZ (cO (iN i b off) cs) off (cD (iN i b off) (get s.env i)).cells))) (ht:∀j,j≠i->t' j=t j) :
  ∃ N',N'.β=N.β/\er X φ' w' N' s' (Ha.set (N.β b) (some (iZ as off (jY N i (get s.env i)).cells))) t':=by
 have hg:=tu i b off;have hL:=T0 i b off;generalize hv:get s.env i=v at *;obtain⟨tc1,tc2⟩:=xH N i v;have hblt:=dx hb;have halt:=dx has
 have hasl:as.length=cs.length:=by
  obtain⟨as',g1,g2,_⟩:=h.box b cs hb;rw[has] at g1; cases g1; exact g2
 have LC:(cD (iN i b off) v).cells=cO (iN i b off) v.cells:=Gh hL v
 -- where a place of the new state comes from
 obtain⟨u,hu1,hu2⟩:∃u:Rt->Rt,(∀j,off<=j->j<off+k->u (.c b j)=rQ i v (j-off))/\∀ q,cP b off k q=false->u q=q:=
  ⟨fun q=>match q with
   |.c d j=>if d=b/\off<=j/\j<off+k then rQ i v (j-off) else .c d j
   |q=>q,fun j h1 h2=>by simp[h1,h2],fun q hq=>by
     cases q with
     |s j=>rfl
     |sc j l=>rfl
     |c d j=>
       simp only[cP,Px,decide_eq_false_iff_not] at hq;have:¬(d=b/\off<=j/\j<off+k):=by omega
       simp[this]⟩
 have blkH:∀d,aJ s'.H d=if d=b then some (iZ (cO (iN i b off) cs) off (cO (iN i b off) v.cells)) else (aJ s.H d).map (cO (iN i b off)):=by
  intro d;rw[hH,di,fe,LC,fj];by_cases e:d=b
  ·subst e; simp[hblt]
  ·simp[e]
 have atq:∀q,bw i q=false->cP b off k q=false->at_ s' q=(at_ s q).map (cD (iN i b off)):=by
  intro q h1 h2;cases q with
  |s j=>simp only[bw,decide_eq_false_iff_not] at h1; simp[at_,he,h1]
  |sc j l=>
    simp only[bw,decide_eq_false_iff_not] at h1;have:=iS hL s (.sc j l);simp only[at_,cm,df] at this;simp only[at_,he,if_neg h1];exact this
  |c d j=>
    simp only[at_,blkH];by_cases e:d=b
    ·subst e;simp only[if_true,hb];simp only[cP,decide_true,Pw,Px,decide_eq_false_iff_not] at h2;rw[kK (by rw[cv,cv,hk]; exact oV),cv,hk];by_cases c1:j<off
     ·rw[if_pos c1,dY]
     ·rw[if_neg c1,if_neg (by omega),dY]
    ·simp only[if_neg e];cases aJ s.H d with
     |none=>rfl
     |some ds=>simp[dY]
 have atb:∀j,off<=j->j<off+k->at_ s' (.c b j)=(v.cells[j-off]?).map (cD (iN i b off)):=by
  intro j h1 h2;simp only[at_,blkH,if_true];rw[kK (by rw[cv,cv,hk]; exact oV),cv,hk,if_neg (by omega),if_pos h2,dY]
 have ati:∀q,bw i q=true->au s' q=none:=by
  intro q hq;cases q with
  |s j=>simp only[bw,decide_eq_true_eq] at hq; subst hq; unfold au; simp[at_,he]
  |sc j l=>simp only[bw,decide_eq_true_eq] at hq; subst hq; unfold au; simp[at_,he]
  |c d j=>simp[bw] at hq
 have cellAt:∀j d,v.cells[j]?=some d->at_ s (rQ i v j)=some d:=fun j d hd=>by
  have:=WY (s:=s) (i:=i) (j:=j) (d:=d) (by rw[hv]; exact hd)
  rwa [hv] at this
 have own:∀q k' xs,au s' q=some (k',xs)->au s (u q)=some (k',xs):=by
  intro q k' xs e
  have hqi:bw i q=false:=by
   cases e2:bw i q with
   |true=>rw[ati q e2] at e; cases e
   |false=>rfl
  have e':=bY.1 e;cases hq:cP b off k q with
  |false=>
    rw[hu2 q hq];rw[atq q hqi hq] at e';cases ha:at_ s q with
    |none=>rw[ha] at e'; cases e'
    |some x=>
      rw[ha] at e';simp only[cj,af] at e';rw[wQ hL] at e';subst e';exact bY.2 ha
  |true=>
    cases q with
    |s j=>simp[cP] at hq
    |sc j l=>simp[cP] at hq
    |c d j=>
      simp only[cP,ae,decide_eq_true_eq] at hq;obtain⟨rfl,h1,h2⟩:=hq;rw[hu1 j h1 h2];rw[atb j h1 h2] at e';cases ha:v.cells[j-off]? with
      |none=>rw[ha] at e'; cases e'
      |some x=>
        rw[ha] at e';simp only[cj,af] at e';rw[wQ hL] at e';subst e';exact bY.2 (cellAt _ _ ha)
 have af0:(∃ds,v=.agg ds)\/(jd v/\v.cells=[v]/\∀ j,rQ i v j=.s i):=by
  by_cases ha:∃ds,v=.agg ds
  ·exact .inl ha
  ·have hn:jd v:=fun ds e=>ha ⟨ds,e⟩;refine .inr ⟨hn,?_,fun j=>?_⟩
   ·cases v<;>first|rfl|exact absurd rfl (hn _)
   ·cases v<;>first|rfl|exact absurd rfl (hn _)
 -- an owner that was, where it is now
 have VY:∀p,(au s p).isSome->cP b off k p=false->au s' (ik i b off p)=au s p/\u (ik i b off p)=p:=by
  intro p hp hc;obtain⟨⟨k',xs⟩,e⟩:=aR.1 hp;have e':=bY.1 e;cases ZA:bw i p with
  |false=>
    have hm:ik i b off p=p:=by
     cases p with
     |s j=>simp only[bw,decide_eq_false_iff_not] at ZA; simp[ik,ZA]
     |sc j l=>simp only[bw,decide_eq_false_iff_not] at ZA; simp[ik,ZA]
     |c d j=>rfl
    rw[hm];refine⟨?_,hu2 p hc⟩;rw[<-gO hL s p];exact gN (by rw[atq p ZA hc,iS hL])
  |true=>
    cases p with
    |s j=>
      simp only[bw,decide_eq_true_eq] at ZA;subst ZA;simp only[at_,af] at e';rw[hv] at e';subst e';have hk1:k=1:=by rw[<-hk]; rfl
      subst hk1;have hm:ik j b off (.s j)=.c b off:=by simp[ik]
      rw[hm,hu1 off (aI _) (by omega)];refine⟨?_,rfl⟩;rw[e];exact bY.2 (by rw[atb off (aI _) (by omega)]; simp[AV.cells,cD])
    |sc j l=>
      simp only[bw,decide_eq_true_eq] at ZA;subst ZA;simp only[at_,hv] at e';split at e'
      case h_2=>cases e'
      rename_i ds;have hl:l<k:=by rw[<-hk]; exact ak e'
      have hm:ik j b off (.sc j l)=.c b (off+l):=by simp[ik]
      rw[hm,hu1 (off+l) (by omega) (by omega)];refine⟨?_,by simp[rQ]⟩;rw[e];exact bY.2 (by rw[atb (off+l) (by omega) (by omega)]; simp[AV.cells,e',cD])
    |c d j=>simp[bw] at ZA
 have back:∀q,(au s' q).isSome->ik i b off (u q)=q:=by
  intro q hq
  have hqi:bw i q=false:=by
   cases e2:bw i q with
   |true=>rw[ati q e2] at hq; cases hq
   |false=>rfl
  cases hc:cP b off k q with
  |false=>
    rw[hu2 q hc];cases q with
    |s j=>simp only[bw,decide_eq_false_iff_not] at hqi; simp[ik,hqi]
    |sc j l=>simp only[bw,decide_eq_false_iff_not] at hqi; simp[ik,hqi]
    |c d j=>rfl
  |true=>
    cases q with
    |s j=>simp[cP] at hc
    |sc j l=>simp[cP] at hc
    |c d j=>
      simp only[cP,ae,decide_eq_true_eq] at hc;obtain⟨rfl,h1,h2⟩:=hc;rw[hu1 j h1 h2];rcases af0 with⟨ds,rfl⟩|⟨_,Pf,hp1⟩
      ·simp only[rQ,ik,if_true];rw[show off+(j-off)=j by omega]
      ·rw[hp1];have:k=1:=by rw[<-hk,Pf]; rfl
       simp only[ik,if_true];rw[show off=j by omega]
 have hlen:s'.H.length=s.H.length:=by rw[hH,cF,fj]
 obtain⟨N',ep,hN⟩:∃N':Names,N'.β=N.β/\∀ q,N'.ν q=N.ν (u q):=⟨⟨N.β,fun q=>N.ν (u q)⟩,rfl,fun _=>rfl⟩;have kL:∀p,(au s p).isSome->cP b off k p=false->N'.ν (ik i b off p)=N.ν p:=fun p hp hc=>by rw[hN,(VY p hp hc).2]
 have bor1:∀{r x},at_ s r=some x->(∀p∈aK x,N'.ν (ik i b off p)=N.ν p)/\cB (au s') s'.H.length (cD (iN i b off) x):=by
  intro r x hx;refine⟨fun p hp=>kL p (h.dz hx p hp) (hC r x hx p hp),?_⟩;rw[hlen];exact MP hg x (fun p hp=>(VY p (h.dz hx p hp) (hC r x hx p hp)).1) (h.AM hx)
 have so:∀{q},(au s' q).isSome->(au s (u q)).isSome:=by
  intro q hq;obtain⟨⟨k',xs⟩,e⟩:=aR.1 hq;rw[own q k' xs e]; rfl
 have sb:∀{d},(aJ s'.H d).isSome->(aJ s.H d).isSome:=by
  intro d hd;rw[blkH] at hd;by_cases e:d=b
  ·subst e; rw[hb]; rfl
  ·rw[if_neg e] at hd;cases e2:aJ s.H d with
   |none=>rw[e2] at hd; cases hd
   |some _=>rfl
 refine⟨N',ep,⟨fun j=>?_,fun j=>?_,hh,fun q k' xs e=>?_,fun d ds e=>?_,fun p q n e1 e2 e3 e4=>?_,fun d q e1 e2 e3=>?_,fun d e e1 e2 e3=>?_⟩⟩
 ·rw[he];by_cases HX:j=i
  ·rw[if_pos HX]; exact .any _ _
  ·rw[if_neg HX,ht j HX];rw[J7 (N:=N) (i:=j) ep hg (by rw[hN,hu2 _ rfl]) (fun l=>by rw[hN,hu2 _ rfl]) (bor1 (r:=.s j) rfl).1];exact ad.rep (h.env j)
 ·rw[he];by_cases HX:j=i
  ·rw[if_pos HX]; trivial
  ·rw[if_neg HX]; exact (bor1 (r:=.s j) rfl).2
 ·have e2:=own q k' xs e;rw[hN];refine (h.own _ k' xs e2).same fun n hn=>?_;rw[di,if_neg];rintro⟨e3,_⟩;exact h.bx b (u q) (by rw[hb]; rfl) (by rw[e2]; rfl) (by rw[hn,e3])
 ·rw[blkH] at e;by_cases hd:d=b
  ·subst hd;rw[if_pos rfl] at e;cases e;refine⟨iZ as off (jY N i v).cells,by rw[ep,di,if_pos ⟨rfl,halt⟩],?_,fun j x hx=>?_⟩
   ·rw[fS (by rw[tc1,hk]; omega),fS (by rw[cv,cv,hk]; omega),cv,hasl]
   ·rw[kK (by rw[cv,cv,hk]; exact oV),cv,hk] at hx
    have outside:(cO (iN i d off) cs)[j]?=some x->cP d off k (.c d j)=false->(∀hj:True,(iZ as off (jY N i v).cells)[j]?=as[j]?)->cB (au s') s'.H.length x/\∃ a',(iZ as off (jY N i v).cells)[j]?=some a'/\Le (iJ N' (.c d j) x) a':=by
     intro hx hc hov;rw[dY] at hx;cases GC:cs[j]? with
     |none=>rw[GC] at hx; cases hx
     |some x0=>
       rw[GC] at hx;simp at hx;subst hx;obtain⟨as2,g1,g2,g3⟩:=h.box d cs hb;rw[has] at g1; cases g1;obtain⟨_,a',a1,a2⟩:=g3 j x0 GC;have ug:=bor1 (r:=.c d j) (x:=x0) (by rw[xh hb]; exact GC);refine⟨ug.2,a',by rw[hov trivial]; exact a1,?_⟩;rw[zg (N:=N) (r:=.c d j) ep hg (fun _ _ _=>by rw[hN,hu2 _ hc]) ug.1];exact a2
    split at hx
    ·rename_i c1;exact outside hx (by simp[cP]; omega) (fun _=>by rw[kK (by rw[tc1,hk]; omega),if_pos c1])
    ·split at hx
     ·rename_i c1 c2;rw[dY] at hx;cases GC:v.cells[j-off]? with
      |none=>rw[GC] at hx; cases hx
      |some x0=>
        rw[GC] at hx;simp at hx;subst hx;have ug:=bor1 (cellAt _ _ GC);refine⟨ug.2,iJ N (rQ i v (j-off)) x0,?_,?_⟩
        ·rw[kK (by rw[tc1,hk]; omega),if_neg c1,if_pos (by rw[tc1,hk]; exact c2),tc2 _ _ GC];cases v<;>rfl
        ·rw[zg (N:=N) (r:=rQ i v (j-off)) ep hg (fun _ _ _=>by rw[hN,hu1 j (by omega) c2]) ug.1];exact Le.refl _
     ·rename_i c1 c2;exact outside hx (by simp[cP]; omega) (fun _=>by rw[kK (by rw[tc1,hk]; omega),if_neg c1,if_neg (by rw[tc1,hk]; exact c2)])
  ·rw[if_neg hd] at e;cases yf:aJ s.H d with
   |none=>rw[yf] at e; cases e
   |some ds0=>
     rw[yf] at e;simp at e;subst e;obtain⟨as2,g1,g2,g3⟩:=h.box d ds0 yf;refine⟨as2,?_,by rw[cv]; exact g2,fun j x hx=>?_⟩
     ·rw[ep,di,if_neg]
      ·exact g1
      ·rintro⟨e3,_⟩;exact hd (h.bi d b (by rw[yf]; rfl) (by rw[hb]; rfl) e3)
     ·rw[dY] at hx;cases GC:ds0[j]? with
      |none=>rw[GC] at hx; cases hx
      |some x0=>
        rw[GC] at hx;simp at hx;subst hx;obtain⟨_,a',a1,a2⟩:=g3 j x0 GC;have ug:=bor1 (r:=.c d j) (x:=x0) (by rw[xh yf]; exact GC);refine⟨ug.2,a',a1,?_⟩;rw[zg (N:=N) (r:=.c d j) ep hg (fun _ _ _=>by rw[hN,hu2 _ (by simp[cP,hd])]) ug.1];exact a2
 ·rw[hN] at e3 e4;have:=h.inj _ _ n (so e1) (so e2) e3 e4;rw[<-back p e1,this,back q e2]
 ·rw[hN,ep] at e3;exact h.bx d _ (sb e1) (so e2) e3
 ·rw[ep] at e3;exact h.bi d e (sb e1) (sb e2) e3
end
end Go.Bm

/- Stores. -/
namespace Go.Bm
open Go.Am
section
variable {P:Program} {X:Nat->Prop} {φ φ':cZ} {w w':World} {N N':Names} {s s' s1:St} {Ha Ha':Heap} {t t':Nat->Value} {B:Nat->Nat} {base:Nat} {v va:AV} {v':Value} {c:dO} {o:Oper} {a:Act} {kd:Kd}
theorem aca {op:Op} {k:Nat} {x y:E} (h:cK P op (.st k x y)=true):∃ty xo yo,op=.store ty xo yo/\nk P ty k=true/\cM xo x=true/\cM yo y=true:=by
 unfold cK at h;split at h<;>simp_all
 exact⟨_,_,_,⟨rfl,rfl,rfl⟩,h.1.1,h.1.2,h.2⟩
theorem Ir (h:er X φ w N s Ha t) {i:Nat} (hl:bq (get s.env i).cells=true):bq (jY N i (get s.env i)).cells=true:=by
 obtain⟨h1,h2⟩:=xH N i (get s.env i);refine uz fun d hd=>?_;obtain⟨j,hj⟩:=bz hd;obtain⟨x,hx⟩:=aZ (l:=(get s.env i).cells) (i:=j) (by have:=ak hj; omega);rw[h2 j x hx] at hj;cases hj;have hxl:=xn hl x (bf hx);have cX:=Ec (wI (h.Ea i)) x (bf hx);by_cases ho:∃k xs,x=.own k xs
 ·obtain⟨k,xs,rfl⟩:=ho;simp only[iJ,rA];split<;>rfl
 ·have:=KA h hxl cX;cases x<;>first|exact this|exact absurd ⟨_,_,rfl⟩ ho
theorem Dy:∀{ds:List AV},bJ ds=false->∀x∈ds,∀k xs,x≠.own k xs
 |[],_,x,hx=>by simp at hx
 |y::r,h,x,hx=>by
   intro k xs e;subst e;obtain⟨j,hj⟩:=bz hx;exact zW h j k xs hj
theorem EU {b off k:Nat} {cs:List AV} (hb:aJ s.H b=some cs) (ho:bJ ((cs.drop off).take k)=false) {p:Rt} (hp:(au s p).isSome):cP b off k p=false:=by
 cases p with
 |s j=>rfl
 |sc j l=>rfl
 |c d j=>
   cases e:cP b off k (.c d j) with
   |false=>rfl
   |true=>
     simp only[cP,ae,decide_eq_true_eq] at e;obtain⟨rfl,h1,h2⟩:=e;obtain⟨⟨k',xs⟩,e2⟩:=aR.1 hp;have e3:=bY.1 e2;rw[xh hb] at e3;refine absurd rfl (Dy ho (.own k' xs) ?_ k' xs);refine bf (i:=j-off) ?_;rw[bE,if_pos (by omega),aW,show off+(j-off)=j by omega];exact e3
theorem MO (hm:P.follows .mixedOrders=true) (h:SB X φ w B base s (tm a)) (hg:Am.dH (gb c) X φ w) {k b off:Nat} {x y:E} {f:Fq} (hk:cK P o.op (ku (.st k x y))=true) (zQ:aY c s.env x=.ptr b off) (hs:yP s b off k (aY c s.env y)=some (s',f)):kF P X φ w B base s' .undef o a:=by
 obtain⟨N,Ha,h,hbB,Uh⟩:=h;obtain⟨ty,xo,yo,eP,mQ,c1,c2⟩:=aca hk;have hx:=cq (c:=c) (cA:=gb c) h rfl c1;have hy:=cq (c:=c) (cA:=gb c) h rfl c2;have he:o9 X φ w (Al N s.env) a.tmps:=fun i=>by rw[mE]; exact h.env i
 have rx:=bO (a:=a) he hg c1;have ry:=bO (a:=a) he hg c2;rw[hx.ev,zQ] at rx;rw[hy.evQ] at ry;simp only[fV,cC] at rx;have hpo:dQ X φ w N.β s.H.length s (aY c s.env y) (tm a) (a.eval yo):=dQ.quiet h ⟨fun _ _=>rfl,aI _⟩ hy.ok hy.EO ry;generalize aY c s.env y=v at *;unfold yP at hs;split at hs
 case h_2=>cases hs
 rename_i cs dG;split at hs
 case isFalse=>cases hs
 rename_i ZO;obtain⟨q1,q2,q3⟩:=ZO;have hblt:=dx dG;split at hs
 ·split at hs
  case h_2=>cases hs
  rename_i H5;split at hs
  case h_2=>cases hs
  rename_i s2 hh;simp at hs;obtain⟨rfl,_⟩:=hs;obtain⟨oa,HE,ad1⟩:=SB.BP b k off (hpo.put eY H5);generalize BP b off k ⟨put s.env eY v,s.H⟩=s1 at hh HE;obtain⟨N1,Pk,gI,Be,hl1⟩:=HE;have hL:=T0 eY b off;unfold yg at hh;split at hh
  case h_2=>cases hh
  rename_i cs2 N7;split at hh
  case isFalse=>cases hh
  rename_i El;obtain⟨r1,r2,r3,r4⟩:=El;simp at hh;subst hh;simp only[cm,fe,df] at N7 r1 r2 r3 r4 ⊢;cases ZN:aJ s1.H b with
  |none=>rw[ZN] at N7; cases N7
  |some cs1=>
    rw[ZN] at N7;simp at N7;subst N7;rw[Gh hL] at r1 r4;rw[cv] at r1 r2
    have yd:bq (get s1.env eY).cells=true:=by
     refine uz fun d hd=>?_;obtain⟨j,hj⟩:=bz hd;have:=xn r4 (cD (iN eY b off) d) (bf (i:=j) (by rw[dY,hj]; rfl));cases d<;>first|rfl|exact this
    have gV:bJ ((cs1.drop off).take k)=false:=by
     have key:∀{l:List AV},bJ (cO (iN eY b off) l)=false->bJ l=false:=by
      intro l
      induction l with
      |nil=>intro _; rfl
      |cons z r ih=>
        intro h;simp only[cO] at h;cases z<;>simp[cD,iN,bJ] at h ⊢<;>exact ih h
     apply key
     have:(cO (iN eY b off) cs1).drop off=cO (iN eY b off) (cs1.drop off):=by
      apply dy; intro j; rw[aW,dY,dY,aW]
     rw[this] at r3
     have h2:(cO (iN eY b off) (cs1.drop off)).take k=cO (iN eY b off) ((cs1.drop off).take k):=by
      apply dy; intro j; rw[bE,dY,dY,bE]; split<;>rfl
     rw[h2] at r3;exact r3
    obtain⟨as,g1,g2,g3⟩:=gI.box b cs1 ZN;have hβ1:N1.β b=N.β b:=Be b hblt;refine kF.ghost ad1 ?_;have cX:=Yq (P:=P) eP gI.heap g1 mQ (by rw[hβ1]; exact ad1.rep rx) (by have:=gI.env eY; simp only[if_true] at this; exact this) (by rw[(xH N1 eY _).1]; exact r1) (by omega) (Ir gI yd);refine kF.of cX fun v' w' φ' r hh ad=>?_
    obtain⟨N',e1,PL⟩:=gI.acO (i:=eY) (b:=b) (off:=off) (k:=k) (s':=⟨put (jS (iN eY b off) s1.env) eY .any,(fJ (iN eY b off) s1.H).set b (some (iZ (cO (iN eY b off) cs1) off (cD (iN eY b off) (get s1.env eY)).cells))⟩) (t':=tm a)
     ZN g1 r1 r2 (fun rr z hz p hp=>EU ZN gV (gI.dz hz p hp)) ad hh (fun j=>by simp only[bD,df]) rfl (fun j hj=>by simp[hj])
    refine dQ.quiet PL ⟨fun d hd=>?_,?_⟩ trivial trivial r
    ·rw[e1,Be d (by omega)]; exact hbB d hd
    ·simp only[cF,fj]; omega
 ·rename_i adO;simp at hs;obtain⟨rfl,_⟩:=hs;obtain⟨i,hi,_⟩:=Jq s.env [];obtain⟨N1,Pk,gI,Be,hl1⟩:=hpo.put i hi;have hio:bL (get s.env i)=false:=by rw[hi]; rfl
  obtain⟨as,g1,g2,g3⟩:=gI.box b cs dG;have hβ1:N1.β b=N.β b:=Be b hblt;have gi:get (put s.env i v) i=v:=by rw[bD,if_pos rfl]
  have yd:bq (get (put s.env i v) i).cells=true:=by rw[gi]; exact q3
  have MX:∀{p},(au s p).isSome->ik i b off p=p:=by
   intro p hp;have:=uw hio hp;cases p with
   |s j=>simp only[bw,decide_eq_false_iff_not] at this; simp[ik,this]
   |sc j l=>simp only[bw,decide_eq_false_iff_not] at this; simp[ik,this]
   |c d j=>rfl
  have cX:=Yq (P:=P) eP gI.heap g1 mQ (by rw[hβ1]; exact rx) (by have:=gI.env i; simp only[if_true] at this; exact this) (by rw[(xH N1 i _).1,gi]; exact q1) (by omega) (Ir gI yd);refine kF.of cX fun v' w' φ' r hh ad=>?_
  have hnoC:∀r z,at_ ⟨put s.env i v,s.H⟩ r=some z->∀p∈aK z,cP b off k p=false:=by
   intro r z hz p hp;simp only[ae,not_and,Bool.not_eq_true] at adO;cases hod:bJ ((cs.drop off).take k) with
   |false=>exact EU (s:=⟨put s.env i v,s.H⟩) dG hod (gI.dz hz p hp)
   |true=>
     have hn:=adO hod;simp only[Hk,eC] at hn;cases r with
     |s j=>
       simp only[at_,bD,af] at hz;subst hz;split at hp
       ·exact jN hn.1 p hp
       ·exact rT hn.2.1 j p hp
     |sc j l=>
       simp only[at_,bD] at hz;split at hz
       ·rename_i ds nT;split at nT
        ·subst nT;exact jN hn.1 p (by simp only[aK]; exact kB hz hp)
        ·exact rT hn.2.1 j p (by rw[nT]; simp only[aK]; exact kB hz hp)
       ·cases hz
     |c d l=>
       simp only[at_] at hz;split at hz
       ·rename_i ds nT;exact ux hn.2.2 d ds nT p (kB hz hp)
       ·cases hz
  obtain⟨N',e1,PL⟩:=gI.acO (i:=i) (b:=b) (off:=off) (k:=k) (s':=⟨s.env,s.H.set b (some (iZ cs off v.cells))⟩) (t':=tm a) dG g1 (by rw[gi]; exact q1) q2 hnoC ad hh
   (fun j=>by
    simp only[bD];by_cases hj:j=i
    ·rw[if_pos hj,hj]; exact hi
    ·rw[if_neg hj,if_neg hj,sA (tu i b off) _ (fun p hp=>MX (h.dz (r:=.s j) rfl p hp))])
   (by
    simp only[gi]
    rw[Eg (tu i b off) s.H (fun d ds hd p hp=>MX (by
     obtain⟨j,z,h1,h2⟩:=Lb hp;exact h.dz (r:=.c d j) (by rw[xh hd]; exact h1) p h2)),
     rE (tu i b off) cs (fun p hp=>MX (by
     obtain⟨j,z,h1,h2⟩:=Lb hp;exact h.dz (r:=.c b j) (by rw[xh dG]; exact h1) p h2)),
     sA (tu i b off) v (fun p hp=>MX (BW v hpo.ok p hp))])
   (fun j hj=>by simp[hj])
  refine dQ.quiet PL ⟨fun d hd=>?_,?_⟩ trivial trivial r
  ·rw[e1,Be d (by omega)]; exact hbB d hd
  ·simp only[cF]; omega
end
end Go.Bm

/- Maps, whose entries are a box of plain values. -/
namespace Go.Bm
open Go.Am
theorem fU:∀{cs:List AV},eE cs=true->∀(i:Nat) (c:AV),cs[i]?=some c->pl c=true
 |x::r,h,0,c,hc=>by simp only[eE,ae] at h; simp at hc; subst hc; exact h.1
 |x::r,h,i+1,c,hc=>by simp only[eE,ae] at h; exact fU h.2 i c (by simpa using hc)
theorem tY {x:AV} (h:pl x=true):bL x=false:=by
 cases x<;>first|rfl|(simp[pl] at h; done)|skip
 rename_i cs;simp only[pl] at h;simp only[bL]
 induction cs with
 |nil=>rfl
 |cons y r ih=>
   simp only[eE,ae] at h;have h1:=h.1;cases y<;>first|exact ih h.2|(simp[pl] at h1; done)
theorem Ti:∀{xs ys:List AV},eE xs=true->eE ys=true->eE (xs++ys)=true
 |[],_,_,h=>h
 |x::r,ys,h,k=>by simp only[List.cons_append,eE,ae] at h ⊢; exact⟨h.1,Ti h.2 k⟩
theorem Th:∀{xs:List AV} {i:Nat} {y:AV},eE xs=true->pl y=true->eE (xs.set i y)=true
 |[],_,_,_,_=>rfl
 |x::r,0,y,h,k=>by simp only[List.set_cons_zero,eE,ae] at h ⊢; exact⟨k,h.2⟩
 |x::r,i+1,y,h,k=>by simp only[List.set_cons_succ,eE,ae] at h ⊢; exact⟨h.1,Th h.2 k⟩
theorem _root_.Go.Am.bF.BK {R:Addr->Value->Prop} {φ:cZ} {k b off len:Nat} {v:Value} (r:bF R φ (.sl k b off len) v) {g sz:Nat} (e:φ[b]?=some (some (g,sz))):0<sz:=by
 cases r with
 |sl _ _ _ _ _ a cap hb hc h=>have:=(h g sz e).2; omega
theorem _root_.Go.Am.bF.aa1 {R:Addr->Value->Prop} {φ:cZ} {b off:Nat} {v:Value} (r:bF R φ (.ptr b off) v) {g sz:Nat} (e:φ[b]?=some (some (g,sz))):0<sz:=by
 cases r with
 |ptr _ _ _ a hb h=>exact (h g sz e).2
theorem less {X:Nat->Prop} {φ:cZ} {w:World} {Ha:Heap} (h:bV X φ w Ha) {n:Nat} {cs cs':List AV} (hb:aJ Ha n=some cs) (hl:cs'.length<=cs.length) (hs:(∀g sz,φ[n]?=some (some (g,sz))->0<sz)\/cs'.length=cs.length) (hc:∀(i:Nat) (d:AV),cs'[i]?=some d->∃a,cs[i]?=some a/\Le d a):bV X φ w (Ha.set n (some cs')):=by
 refine⟨by simp[h.len],h.HK,fun b ds yf=>?_,fun b yf=>?_,h.inj⟩
 ·rw[aX] at yf;split at yf
  ·rename_i e;subst e;split at yf
   ·simp at yf;subst yf;obtain⟨g,sz,arr,e,g1,g2,g3,g4,g5,g6⟩:=h.at hb;refine⟨g,sz,arr,e,g1,g2,g3,⟨by omega,fun z=>hs.elim (fun hs=>absurd (hs g sz g1) (by omega)) (fun hs=>hs.trans (g4.2 z))⟩,g5,fun i d hd=>?_⟩;obtain⟨a,ha,hle⟩:=hc i d hd;obtain⟨u,u1,u2⟩:=g6 i a ha;exact⟨u,u1,hle _ _ _ u2⟩
   ·cases yf
  ·exact h.live b ds yf
 ·rw[aX] at yf;split at yf
  ·split at yf<;>simp at yf
  ·exact h.dead b yf
theorem BV {e:Env} {H:Heap} {d j:Nat} (hp:∀cs,aJ H d=some cs->eE cs=true):au ⟨e,H⟩ (.c d j)=none:=by
 cases ho:au ⟨e,H⟩ (.c d j) with
 |none=>rfl
 |some y=>
   obtain⟨k,xs⟩:=y;have h1:=bY.1 ho;simp only[at_] at h1;split at h1
   ·rename_i ds hd;have:=fU (hp ds hd) j _ h1;simp[pl] at this
   ·cases h1
theorem qY (N:Names) (p:Rt) {z:AV} (hz:pl z=true):iJ N p z=z:=by
 cases z<;>first|exact kg N _ hz|(simp[pl] at hz; done)
theorem xI (N:Names) {z:AV} (hz:pl z=true):fV N z=z:=by
 cases z<;>first|exact kg N _ hz|(simp[pl] at hz; done)
theorem er.Ka {X:Nat->Prop} {φ oa:cZ} {w w1:World} {N:Names} {s:St} {Ha Ha':Heap} {t:Nat->Value} (h:er X φ w N s Ha t) {b:Nat} {cs cs':List AV} (hb:aJ s.H b=some cs) (Uc:eE cs=true) (Qw:eE cs'=true) (ad:eW φ w oa w1) (hh:bV X oa w1 Ha') (DV:aJ Ha' (N.β b)=some cs') (Cm:∀m,m≠N.β b->aJ Ha' m=aJ Ha m):er X oa w1 N ⟨s.env,s.H.set b (some cs')⟩ Ha' t:=by
 have hoa:∀p,au ⟨s.env,s.H.set b (some cs')⟩ p=au s p:=by
  intro p;cases p with
  |s i=>rfl
  |sc i j=>rfl
  |c d j=>
    by_cases e:d=b
    ·subst e;rw[BV (e:=s.env) (H:=s.H.set d (some cs')) (d:=d) (j:=j) fun ds hd=>by rw[di,if_pos ⟨rfl,dx hb⟩] at hd; cases hd; exact Qw];exact (BV (e:=s.env) (H:=s.H) (d:=d) (j:=j) fun ds hd=>by rw[hb] at hd; cases hd; exact Uc).symm
    ·simp only[au,at_];rw[di,if_neg (fun h=>e h.1)]
 have hfe:au ⟨s.env,s.H.set b (some cs')⟩=au s:=funext hoa;have hlen:(s.H.set b (some cs')).length=s.H.length:=by simp
 have hblk:∀d ds,aJ (s.H.set b (some cs')) d=some ds->(d=b/\ds=cs')\/(d≠b/\aJ s.H d=some ds):=by
  intro d ds e;by_cases e2:d=b
  ·subst e2;rw[di,if_pos ⟨rfl,dx hb⟩] at e;cases e;exact .inl ⟨rfl,rfl⟩
  ·rw[di,if_neg (fun h=>e2 h.1)] at e;exact .inr ⟨e2,e⟩
 have Zy:∀d,(aJ (s.H.set b (some cs')) d).isSome->(aJ s.H d).isSome:=by
  intro d e;obtain⟨ds,hd⟩:=aR.1 e;rcases hblk d ds hd with⟨rfl,_⟩|⟨_,h2⟩
  ·rw[hb]; rfl
  ·rw[h2]; rfl
 have KR:(aJ s.H b).isSome:=by rw[hb]; rfl
 refine⟨fun i=>ad.rep (h.env i),fun i=>?_,hh,fun p k xs e=>?_,fun d ds e=>?_,fun p q n e1 e2=>?_,fun d p e1 e2=>?_,fun d e0 e1 e2 e3=>?_⟩
 ·rw[hfe];show cB _ (s.H.set b (some cs')).length _;rw[hlen]; exact h.Ea i
 ·rw[hoa] at e;have ho:=h.own p k xs e;cases hn:N.ν p with
  |none=>rw[hn] at ho; exact ho
  |some m=>
    rw[hn] at ho;obtain⟨ds,d1,d2⟩:=ho;have tN:m≠N.β b:=fun e2=>h.bx b p KR (by rw[e]; rfl) (by rw[hn,e2]);exact⟨ds,by rw[Cm _ tN]; exact d1,d2⟩
 ·rcases hblk d ds e with⟨rfl,rfl⟩|⟨hd,Du⟩
  ·exact⟨_,DV,rfl,fun j d hd=>⟨vv _ (fU Qw j d hd),d,hd,by rw[qY _ _ (fU Qw j d hd)]; exact Le.refl _⟩⟩
  ·obtain⟨as2,x1,x2,x3⟩:=h.box d ds Du;have tN:N.β d≠N.β b:=fun h2=>hd (h.bi d b (by rw[Du]; rfl) KR h2);refine⟨as2,by rw[Cm _ tN]; exact x1,x2,fun j d' hd'=>?_⟩;obtain⟨y1,y2⟩:=x3 j d' hd';refine⟨?_,y2⟩;rw[hfe];show cB _ (s.H.set b (some cs')).length _;rw[hlen]; exact y1
 ·rw[hoa] at e1 e2; exact h.inj p q n e1 e2
 ·rw[hoa] at e2; exact h.bx d p (Zy d e1) e2
 ·exact h.bi d e0 (Zy d e1) (Zy e0 e2) e3

section
variable {P:Program} {X:Nat->Prop} {φ φ':cZ} {w w':World} {N N':Names} {s s' s1:St} {Ha Ha':Heap} {t t':Nat->Value} {B:Nat->Nat} {base:Nat} {v va:AV} {v':Value} {c:dO} {o:Oper} {a:Act} {kd:Kd} {call:Nat->List AV->Heap->Option (AV × Heap)}
theorem er.Ts (h:er X φ w N s Ha t) {p:Rt} {k n:Nat} {xs:List AV} (hp:au s p=some (k,xs)) (hn:N.ν p=some n) {g sz:Nat} (e:φ[n]?=some (some (g,sz))):0<sz:=by
 have ha:=bY.1 hp;cases p with
 |s i=>
   simp only[at_,af] at ha;have r:=h.env i;rw[ha] at r;simp only[jY,iJ,rA,hn] at r;exact r.BK e
 |sc i j=>
   simp only[at_] at ha;split at ha
   case h_2=>cases ha
   rename_i cs dG;have r:=h.env i;rw[dG] at r;simp only[jY] at r;generalize t i=v at r;cases r with
   |agg _ _ vs hl hh=>
     obtain⟨u,hu⟩:=bW (l:=vs) (i:=j) (by have:=ak ha; rw[fR] at hl; omega);have r2:=hh j _ u (by rw[fE,ha]; rfl) hu;simp only[fg,iJ,rA,hn] at r2;exact r2.BK e
 |c b j=>
   simp only[at_] at ha;split at ha
   case h_2=>cases ha
   rename_i cs dG;obtain⟨as,a1,a2,a3⟩:=h.box b cs dG;obtain⟨_,a',b1,b2⟩:=a3 j _ ha;obtain⟨_,_,_,_,_,_,_,_,_,g6⟩:=h.heap.at a1;obtain⟨u,_,u2⟩:=g6 j a' b1;have r2:=b2 _ _ _ u2;simp only[iJ,rA,hn] at r2;exact r2.BK e
theorem er.adH (h:er X φ w N s Ha t) {b:Nat} {es:List AV} (hb:aJ s.H b=some es) (hp:eE es=true):∃Pk,aJ Pk (N.β b)=some es/\er X φ w N s Pk t:=by
 obtain⟨as,b1,b2,b3⟩:=h.box b es hb
 have hh:bV X φ w (Ha.set (N.β b) (some es)):=less h.heap b1 (by omega) (.inr (by omega)) fun i d hd=>by
  obtain⟨_,a',a1,a2⟩:=b3 i d hd;rw[qY N _ (fU hp i d hd)] at a2;exact⟨a',a1,a2⟩
 have DV:aJ (Ha.set (N.β b) (some es)) (N.β b)=some es:=by rw[di,if_pos ⟨rfl,dx b1⟩]
 have h2:=h.Ka hb hp hp (.refl φ w) hh DV fun m hm=>by rw[di,if_neg (fun e=>hm e.1)]
 have he:s.H.set b (some es)=s.H:=by
  apply dy;intro i;rw[aX];split
  ·rename_i e; subst e; rw[if_pos (dx hb)]; exact (rS hb).symm
  ·rfl
 rw[he] at h2;exact⟨_,DV,h2⟩
theorem M7 {K:Kt} {x:AV}:∀{cs:List AV} {i:Nat} {p:Nat × AV},gP K x cs i=some (some p)->eE cs=true->pl p.2=true
 |[],_,_,h,_=>by simp[gP] at h
 |c::cs,i,p,h,hp=>by
   obtain⟨k',v,rfl,h2⟩:=zI h;simp only[eE,pl,ae] at hp;rcases h2 with⟨_,h3⟩|⟨_,h3⟩
   ·simp only[af] at h3; subst h3; exact hp.1.2.1
   ·exact M7 h3 hp.2
theorem YZ {K:Kt} {x:AV} {cs:List AV} {ok:Bool} {z:AV} {r:Option (Nat × AV)} (hf:gP K x cs 0=some r) (hp:eE cs=true) (hz:pl z=true):pl (Wa ok z r)=true:=by
 cases r with
 |none=>cases ok<;>simp[Wa,pl,eE,hz]
 |some p=>
   have:=M7 hf hp;cases ok<;>simp[Wa,pl,eE,this]
theorem Y0 {c:dO} {call:Nat->List AV->Heap->Option (AV × Heap)} {s s1:St} {K:Kt} {ok:Bool} {z v:AV} {x k:E} {f:Fq} (h:eS c call s (.yH K ok z x k)=some (v,s1,f)) :
  ∃ b es r,mapOf (aY c s.env x)=some b/\aJ s.H b=some es/\(eE es=true/\(pl (aY c s.env k)=true/\xW K (aY c s.env k) (aY c s.env k)=some true))/\gP K (aY c s.env k) es 0=some r/\pl z=true/\v=Wa ok z r/\s1=s/\f=.rd [.c b 1]:=by
 simp only[eS] at h;split at h
 case h_2=>cases h
 rename_i b e1;split at h
 case h_2=>cases h
 rename_i es e2;split at h
 case isFalse=>cases h
 rename_i hp;split at h
 case h_2=>cases h
 rename_i r e3;split at h
 case isFalse=>cases h
 rename_i hz;simp only[af,aB] at h;obtain⟨rfl,rfl,rfl⟩:=h;exact⟨b,es,r,e1,e2,hp,e3,hz,rfl,rfl,rfl⟩
theorem YS {c:dO} {call:Nat->List AV->Heap->Option (AV × Heap)} {s s1:St} {K:Kt} {v:AV} {x k y:E} {f:Fq} (h:eS c call s (.zB K x k y)=some (v,s1,f)) :
  ∃ b es r,mapOf (aY c s.env x)=some b/\aJ s.H b=some es/\(eE es=true/\((pl (aY c s.env k)=true/\pl (aY c s.env y)=true)/\xW K (aY c s.env k) (aY c s.env k)=some true))/\gP K (aY c s.env k) es 0=some r/\v=.undef/\s1=⟨s.env,s.H.set b (some (zD (aY c s.env k) (aY c s.env y) es r))⟩/\f=.all:=by
 simp only[eS] at h;split at h
 case h_2=>cases h
 rename_i b e1;split at h
 case h_2=>cases h
 rename_i es e2;split at h
 case isFalse=>cases h
 rename_i hp;split at h
 case h_2=>cases h
 rename_i r e3;simp only[af,aB] at h;obtain⟨rfl,rfl,rfl⟩:=h;exact⟨b,es,r,e1,e2,hp,e3,rfl,rfl,rfl⟩
theorem aal {op:Op} {K:Kt} {ok:Bool} {z:AV} {x k:E} (h:cK P op (.yH K ok z x k)=true):(∃y,cM y x=true)/\∃ y,cM y k=true:=by
 cases op<;>simp[cK] at h
 exact⟨⟨_,h.1.2⟩,⟨_,h.2⟩⟩
theorem aak {op:Op} {K:Kt} {x k y:E} (h:cK P op (.zB K x k y)=true):(∃z,cM z x=true)/\(∃z,cM z k=true)/\∃ z,cM z y=true:=by
 cases op<;>simp[cK] at h
 exact⟨⟨_,h.1.1.2⟩,⟨_,h.1.2⟩,⟨_,h.2⟩⟩
theorem Gf (b:Nat):mapOf (nB b)=some b:=rfl
theorem Xm (N:Names) (b:Nat):fV N (nB b)=nB (N.β b):=rfl
theorem Yu (hm:P.follows .mixedOrders=true) (h:SB X φ w B base s (tm a)) (hg:Am.dH (gb c) X φ w) (hk:cK P o.op (ku .B4)=true):kF P X φ w B base ⟨s.env,s.H++[some []]⟩ (nB s.H.length) o a:=by
 obtain⟨N,Ha,h,hb,hl⟩:=h;refine kF.of (kC hm h hg hk (by simp only[ku,fu]; rfl)) fun v' w' φ' r hh ad=>?_;obtain⟨N',n1,n2,h'⟩:=h.Kv (zs:=[]) ad hh trivial (fun j k xs hj=>by simp at hj) rfl;refine dQ.quiet h' ⟨fun b bQ=>by rw[n1 b (by omega)]; exact hb b bQ,by simp; omega⟩ ⟨trivial,⟨by simp[cB],trivial⟩,fun _=>⟨rfl,_,rfl⟩⟩ trivial ?_;simp only[vZ,cC,kj,nB,n2];exact r
theorem Yw (hm:P.follows .mixedOrders=true) (h:SB X φ w B base s (tm a)) (hg:Am.dH (gb c) X φ w) {K:Kt} {ok:Bool} {z:AV} {x k:E} (hk:cK P o.op (ku (.yH K ok z x k))=true) {b:Nat} {es:List AV} {r:Option (Nat × AV)}
  (hx:mapOf (aY c s.env x)=some b) (hb:aJ s.H b=some es) (hp:eE es=true/\(pl (aY c s.env k)=true/\xW K (aY c s.env k) (aY c s.env k)=some true)) (hf:gP K (aY c s.env k) es 0=some r) (hz:pl z=true):kF P X φ w B base s (Wa ok z r) o a:=by
 obtain⟨N,Ha,h,Dx⟩:=h;obtain⟨Pk,q1,h1⟩:=h.adH hb hp.1;obtain⟨⟨y1,k1⟩,y2,k2⟩:=aal hk;have ex:=cq (c:=c) (cA:=gb c) h1 rfl k1;have ek:=cq (c:=c) (cA:=gb c) h1 rfl k2;have hmv:=A2 hx;have mX:pl (Wa ok z r)=true:=YZ hf hp.1 hz;refine kF.of (kC hm h1 hg hk (va:=Wa ok z r) (Ha':=Pk) (fl:=.rd (N.β b)) ?_) fun v' w' φ' r' hh ad=>?_
 ·simp only[ku,fu,ex.ev,ek.ev,hmv,Xm,xI N hp.2.1,Gf,q1,hp.2.2,if_true,hf]
 ·refine dQ.quiet (h1.nO ad hh h1.own (fun _ _=>rfl)) Dx (vv _ mX) (lE (tY mX)) ?_;rw[kI N (tY mX),kg N _ mX]; exact r'
theorem Yt (hm:P.follows .mixedOrders=true) (h:SB X φ w B base s (tm a)) (hg:Am.dH (gb c) X φ w) {K:Kt} {x k y:E} (hk:cK P o.op (ku (.zB K x k y))=true) {b:Nat} {es:List AV} {r:Option (Nat × AV)}
  (hx:mapOf (aY c s.env x)=some b) (hb:aJ s.H b=some es) (hp:eE es=true/\((pl (aY c s.env k)=true/\pl (aY c s.env y)=true)/\xW K (aY c s.env k) (aY c s.env k)=some true)) (hf:gP K (aY c s.env k) es 0=some r):kF P X φ w B base ⟨s.env,s.H.set b (some (zD (aY c s.env k) (aY c s.env y) es r))⟩ .undef o a:=by
 obtain⟨N,Ha,h,Dx⟩:=h;obtain⟨Pk,q1,h1⟩:=h.adH hb hp.1;obtain⟨⟨y1,k1⟩,⟨y2,k2⟩,y3,k3⟩:=aak hk;have ex:=cq (c:=c) (cA:=gb c) h1 rfl k1;have ek:=cq (c:=c) (cA:=gb c) h1 rfl k2;have ey:=cq (c:=c) (cA:=gb c) h1 rfl k3;have hmv:=A2 hx
 have mX:eE (zD (aY c s.env k) (aY c s.env y) es r)=true:=by
  have Xb:pl (.dF [aY c s.env k,aY c s.env y])=true:=by simp[pl,eE,hp.2.1.1,hp.2.1.2]
  cases r with
  |none=>exact Ti hp.1 (by simp[eE,Xb])
  |some p=>exact Th hp.1 Xb
 refine kF.of (kC hm h1 hg hk (va:=.undef) (Ha':=Pk.set (N.β b) (some (zD (aY c s.env k) (aY c s.env y) es r))) (fl:=.wr Pk.length [N.β b]) ?_) fun v' w' φ' r' hh ad=>?_
 ·simp only[ku,fu,ex.ev,ek.ev,ey.ev,hmv,Xm,xI N hp.2.1.1,xI N hp.2.1.2,Gf,q1,hp.2.2,if_true,hf]
 ·refine dQ.quiet (h1.Ka hb hp.1 mX ad hh (by rw[di,if_pos ⟨rfl,dx q1⟩]) fun m hm=>by rw[di,if_neg (fun e=>hm e.1)]) ⟨Dx.1,by simpa using Dx.2⟩ trivial trivial r'
end
end Go.Bm

/- Every operation that calls nothing. -/
namespace Go.Bm
open Go.Am
def mC:Kd->Bool
 |.call _ _=>true
 |.iR _ _=>true
 |_=>false
section
variable {P:Program} {X:Nat->Prop} {φ φ':cZ} {w w':World} {N N':Names} {s s' s1:St} {Ha Ha':Heap} {t t':Nat->Value} {B:Nat->Nat} {base:Nat} {v va:AV} {v':Value} {c:dO} {o:Oper} {a:Act} {kd:Kd} {call:Nat->List AV->Heap->Option (AV × Heap)}
theorem TB (hm:P.follows .mixedOrders=true) (h:SB X φ w B base s (tm a)) (hg:Am.dH (gb c) X φ w) {k:Nat} {zs:List AV} {x:E} (hk:cK P o.op (ku (.UC k zs x))=true) (zQ:(∃k',aY c s.env x=.own k' [])\/∃ k',aY c s.env x=.list k' []):kF P X φ w B base s .undef o a:=by
 obtain⟨N,Ha,h,hb⟩:=h;obtain⟨_,o1,h1⟩:=acq hk;have hx:=cq (c:=c) (cA:=gb c) h rfl h1;refine kF.of (kC (va:=.undef) (Ha':=Ha) hm h hg hk (fl:=.wr Ha.length []) ?_) fun v' w' φ' r hh ad=>?_
 ·rcases zQ with⟨k',e⟩|⟨k',e⟩<;>simp only[ku,fu,hx.ev,e,fV,cC]
 ·exact dQ.quiet (h.nO ad hh h.own (fun _ _=>rfl)) hb trivial trivial r
theorem abk (hm:P.follows .mixedOrders=true) (h:SB X φ w B base s (tm a)) (hg:Am.dH (gb c) X φ w) {n m b off:Nat} {x:E} {hi:Option E} {cs:List AV} (hk:cK P o.op (ku (.Ic n x hi))=true) (e1:aY c s.env x=.ptr b off) (yf:Ag c s.env n n hi=some m) (hbk:aJ s.H b=some cs) (hl:off+n<=cs.length):kF P X φ w B base s (.sl 1 b off m) o a:=by
 obtain⟨N,Ha,h,hb⟩:=h;obtain⟨⟨o1,h1⟩,h2⟩:=UE hk;have hx:=cq (c:=c) (cA:=gb c) h rfl h1;have g2:=Ri (cA:=gb c) h rfl h2 yf;obtain⟨as,a1,a2,_⟩:=h.box b cs hbk;refine kF.of (kC (va:=.sl 1 (N.β b) off m) (Ha':=Ha) hm h hg hk (fl:=.rd (N.β b)) ?_) fun v' w' φ' r hh ad=>?_
 ·simp only[ku,fu,hx.ev,e1,fV,cC,g2,a1,a2];rw[if_pos hl]
 ·exact dQ.quiet (h.nO ad hh h.own (fun _ _=>rfl)) hb (dx hbk) trivial r
theorem Z3 {k off:Nat} {xs ys:List AV} (h1:∀x∈xs,x.cells.length=k) (h2:∀y∈ys,y.cells.length=k):aA (iZ xs off ys)=iZ (aA xs) (off*k) (aA ys):=by
 unfold iZ;rw[jV,jV,yk h1,JB h1,iQ h2,ct]
theorem Yy (hm:P.follows .mixedOrders=true) (h:SB X φ w B base s (tm a)) (hg:Am.dH (gb c) X φ w) {k off n:Nat} {x y:E} (hk:cK P o.op (ku (.copy k x y))=true) {p:Rt} {xs ys:List AV} (zQ:aY c s.env x=.dz k p off n) (hp:au s p=some (k,xs)) (hle:off+n<=xs.length) (hn0:n≠0) (hy:cont s k (aY c s.env y)=some ys) (yd:bq (aA ys)=true):kF P X φ w B base (setAt s p (.own k (iZ xs off (ys.take (min ys.length n))))) (.int .i64 (min ys.length n:Nat)) o a:=by
 obtain⟨N,Ha,h,hb⟩:=h;obtain⟨⟨o1,h1⟩,o2,h2⟩:=OJ hk;have hx:=cq (c:=c) (cA:=gb c) h rfl h1;have cX:=hx.ok;rw[zQ] at cX;obtain⟨news,n1,n2,n3,n4,n5⟩:=Ep h hg h2 hy yd;have eM:=h.own p k xs hp;rcases sZ h cX with⟨b,hn,e2⟩|⟨_,_,N0,_⟩
 case inr=>exact absurd N0 hn0
 rw[hn] at eM;obtain⟨cs,q1,q2,q3,q4⟩:=eM
 have KM:off*k+n*k<=cs.length:=by
  have:=bN k hle;rw[ct] at this; omega
 generalize hm2:min ys.length n=m;have hm3:m<=n/\m<=ys.length:=by omega
 have hmk:m*k<=n*k:=bN k hm3.1
 have hml:(news.take (m*k)).length=m*k:=by
  rw[bj,n2];have:=bN k hm3.2;omega
 have Ei:∀z∈ys.take m,z.cells.length=k:=fun z hz=>n3 z (cS hz);have Xd:aA (ys.take m)=(aA ys).take (m*k):=yk n3 m;have hyl:(ys.take m).length=m:=by rw[bj]; omega
 have hfl2:(aA (ys.take m)).length=m*k:=by rw[iQ Ei,hyl]
 have hxk:off*k+m*k<=(aA xs).length:=by
  rw[iQ q3];have:=bN k hle;rw[ct] at this; omega
 refine kF.of (kC (va:=.int .i64 (m:Nat)) (Ha':=Ha.set b (some (iZ cs (off*k) (news.take (m*k))))) hm h hg hk (fl:=.wr Ha.length [b]) ?_) fun v' w' φ' r hh ad=>?_
 ·simp only[ku,fu,n1,hx.ev,zQ,fV,e2,q1,hm2];rw[if_pos ⟨trivial,KM,n4⟩]
 have ZF:qV (Ha.set b (some (iZ cs (off*k) (news.take (m*k))))) (some b) k (iZ xs off (ys.take m)):=by
  refine⟨iZ cs (off*k) (news.take (m*k)),by rw[di,if_pos ⟨rfl,dx q1⟩],?_,?_,?_⟩
  ·rw[fS (by rw[hyl]; omega),fS (by rw[hml]; omega)]; exact q2
  ·intro z hz;unfold iZ at hz;simp only[aD] at hz;rcases hz with (hz|hz)|hz
   ·exact q3 z (cS hz)
   ·exact Ei z hz
   ·exact q3 z (cT hz)
  ·intro i d hd;rw[Z3 q3 Ei,kK (by rw[hfl2]; exact hxk),hfl2] at hd;rw[kK (by rw[hml]; omega),hml];split
   ·rename_i hc; rw[if_pos hc] at hd; exact q4 i d hd
   ·rename_i hc;rw[if_neg hc] at hd;split
    ·rename_i El;rw[if_pos El,Xd,bE,if_pos (by omega)] at hd;obtain⟨f1,e,f2,f3,f4⟩:=n5 _ d hd;exact⟨f1,e,by rw[bE,if_pos (by omega)]; exact f2,f3,f4⟩
    ·rename_i El; rw[if_neg El] at hd; exact q4 i d hd
 obtain⟨gI,iO⟩:=h.upd (xs':=iZ xs off (ys.take m)) hp hn (fS (by rw[hyl]; omega)) ad hh ZF (fun m' Ej=>by rw[di,if_neg (fun e=>Ej e.1)]);exact dQ.quiet gI ⟨hb.1,by rw[iO.len]; exact hb.2⟩ trivial trivial r
theorem Yz (hm:P.follows .mixedOrders=true) (h:SB X φ w B base s (tm a)) (hg:Am.dH (gb c) X φ w) {k off:Nat} {x y:E} (hk:cK P o.op (ku (.copy k x y))=true) {p:Rt} {ys:List AV} (zQ:aY c s.env x=.dz k p off 0) (hy:cont s k (aY c s.env y)=some ys) (yd:bq (aA ys)=true):kF P X φ w B base s (.int .i64 0) o a:=by
 obtain⟨N,Ha,h,hb⟩:=h;obtain⟨⟨o1,h1⟩,o2,h2⟩:=OJ hk;have hx:=cq (c:=c) (cA:=gb c) h rfl h1;have cX:=hx.ok;rw[zQ] at cX;obtain⟨news,n1,n2,n3,n4,n5⟩:=Ep h hg h2 hy yd;rcases sZ h cX with⟨b,hn,e2⟩|⟨_,_,_,e2⟩
 ·simp only[cB] at cX;obtain⟨xs,hp,hle⟩:=cX;have eM:=h.own p k xs hp;rw[hn] at eM;obtain⟨cs,q1,q2,q3,q4⟩:=eM
  have KM:off*k+0*k<=cs.length:=by
   have:=bN k hle;rw[ct] at this; omega
  refine kF.of (kC (va:=.int .i64 0) (Ha':=Ha) hm h hg hk (fl:=.wr Ha.length [b]) ?_) fun v' w' φ' r hh ad=>dQ.quiet (h.nO ad hh h.own (fun _ _=>rfl)) hb trivial trivial r;have he:iZ cs (off*k) []=cs:=by unfold iZ; simp
  have DV:Ha.set b (some cs)=Ha:=by
   apply dy;intro i;rw[aX];split
   ·rename_i hbi; subst hbi; rw[if_pos (dx q1)]; exact (rS q1).symm
   ·rfl
  simp only[ku,fu,n1,hx.ev,zQ,fV,e2,q1];rw[if_pos ⟨trivial,KM,n4⟩];simp[he,DV]
 ·refine kF.of (kC (va:=.int .i64 0) (Ha':=Ha) hm h hg hk (fl:=.wr Ha.length []) ?_) fun v' w' φ' r hh ad=>dQ.quiet (h.nO ad hh h.own (fun _ _=>rfl)) hb trivial trivial r;simp only[ku,fu,n1,hx.ev,zQ,fV,e2]
theorem aa0 {f:Fq} (h1:mC kd=false) (h2:eS c call s kd=some (v,s',f)):(P5 c s.env kd=some v/\s'=s)\/(∃zs,kd=.new zs)\/(∃x,kd=.box x)\/(∃k n zs ps,kd=.dV k n zs ps)\/(∃k zs l cp,kd=.Kx k zs l cp)\/(∃ag x,kd=.ld ag x)\/(∃k x y,kd=.st k x y)\/(∃k zs x,kd=.UC k zs x)\/(∃k x y,kd=.app k x y)\/(∃n x hi,kd=.Ic n x hi)\/(∃k x y,kd=.copy k x y)\/kd=.B4\/(∃K ok z x k,kd=.yH K ok z x k)\/(∃K x k y,kd=.zB K x k y):=by
 cases kd<;>simp only[eS] at h2<;>first
  | (left
     split at h2
     ·rename_i u hu;simp only[af,aB] at h2;obtain⟨rfl,rfl,_⟩:=h2;exact⟨hu,rfl⟩
     ·cases h2)
  |(right; simp; done)
  |(simp[mC] at h1; done)
theorem aeL (hm:P.follows .mixedOrders=true) (h:SB X φ w B base s (tm a)) (hg:Am.dH (gb c) X φ w) {f:Fq} (hk:cK P o.op (ku kd)=true) (hnc:mC kd=false) (hs:eS c call s kd=some (v,s',f)):kF P X φ w B base s' v o a:=by
 rcases aa0 hnc hs with⟨h1,rfl⟩|⟨zs,rfl⟩|⟨x,rfl⟩|⟨k,n,zs,ps,rfl⟩|⟨k,zs,l,cp,rfl⟩|⟨ag,x,rfl⟩|⟨k,x,y,rfl⟩|⟨k,zs,x,rfl⟩|⟨k,x,y,rfl⟩|⟨n,x,hi,rfl⟩|⟨k,x,y,rfl⟩|rfl|⟨K,ok,z,x,k,rfl⟩|⟨K,x,k,y,rfl⟩
 ·exact Ty hm h hg hk h1
 ·simp only[eS,af,aB] at hs;obtain⟨rfl,rfl,_⟩:=hs;exact P6 hm h hg hk
 ·simp only[eS] at hs;split at hs
  case isFalse=>cases hs
  rename_i hl;simp only[af,aB] at hs;obtain⟨rfl,rfl,_⟩:=hs;exact abj hm h hg hk hl
 ·simp only[eS] at hs;split at hs
  case h_2=>cases hs
  rename_i cs hf;split at hs
  case isFalse=>cases hs
  rename_i hz;simp only[af,aB] at hs;obtain⟨rfl,rfl,_⟩:=hs;obtain⟨oa,h1,a1⟩:=SB.dK (gj c s.env ps) h;exact kF.ghost a1 (P9 hm h1 (hg.nO a1) hk hf hz)
 ·simp only[eS] at hs;split at hs
  case h_2=>cases hs
  rename_i k1 l' k2 cp' e1 e2;split at hs
  case isFalse=>cases hs
  rename_i hc;split at hs
  ·rename_i z hz;simp only[af,aB] at hs;obtain⟨rfl,rfl,_⟩:=hs;exact abd hm h hg hk hz e1 e2 hc
  ·simp only[af,aB] at hs;obtain⟨rfl,rfl,_⟩:=hs;exact abe hm h hg hk e1 e2 hc
 ·simp only[eS] at hs;split at hs
  case h_2=>cases hs
  rename_i u ps hp;split at hs
  case isFalse=>cases hs
  simp only[af,aB] at hs;obtain⟨rfl,rfl,_⟩:=hs;exact aeW hm h hg hk hp
 ·simp only[eS] at hs;split at hs
  ·rename_i k' p i off e0;split at hs
   case h_2=>cases hs
   rename_i s2 f2 h2;simp only[af,aB] at hs;obtain⟨rfl,rfl,_⟩:=hs;obtain⟨oa,h1,a1⟩:=SB.dK (aK (aY c s.env y)) h;refine kF.ghost a1 ?_;generalize dK (aK (aY c s.env y)) s=s3 at h1 h2;unfold O4 at h2;split at h2
   ·rename_i b off' e1;exact MO hm h1 (hg.nO a1) hk e1 h2
   ·rename_i k2 p2 i2 off2 e1;split at h2
    case h_2=>cases h2
    rename_i k3 xs hp;split at h2
    case isFalse=>cases h2
    rename_i tP;subst tP;split at h2
    case h_2=>cases h2
    rename_i u hu;split at h2
    case isFalse=>cases h2
    rename_i hc;simp only[af,aB] at h2;obtain⟨rfl,_⟩:=h2;exact aeO hm h1 (hg.nO a1) hk e1 hp hu hc.1 hc.2.1 hc.2.2
   ·cases h2
  ·rename_i hnp;split at hs
   case h_2=>cases hs
   rename_i s2 f2 h2;simp only[af,aB] at hs;obtain⟨rfl,rfl,_⟩:=hs;unfold O4 at h2;split at h2
   ·rename_i b off' e1;exact MO hm h hg hk e1 h2
   ·rename_i k2 p2 i2 off2 e1;exact absurd e1 (hnp k2 p2 i2 off2)
   ·cases h2
 ·simp only[eS] at hs;split at hs
  ·rename_i k' e1;simp only[af,aB] at hs;obtain⟨rfl,rfl,_⟩:=hs;exact TB hm h hg hk (.inl ⟨k',e1⟩)
  ·rename_i k' e1;simp only[af,aB] at hs;obtain⟨rfl,rfl,_⟩:=hs;exact TB hm h hg hk (.inr ⟨k',e1⟩)
  ·cases hs
 ·simp only[eS] at hs;split at hs
  case h_2=>cases hs
  rename_i ys hy;split at hs
  case isFalse=>cases hs
  rename_i yd;split at hs
  ·rename_i k' e1;split at hs
   case isFalse=>cases hs
   rename_i hl;simp only[af,aB] at hs;obtain⟨rfl,rfl,_⟩:=hs;exact abm hm h hg hk e1 hy yd hl
  ·rename_i k' p len e1;split at hs
   case h_2=>cases hs
   rename_i xX xs hp;split at hs
   case isFalse=>cases hs
   rename_i hc;obtain⟨rfl,rfl,hle,hl⟩:=hc;simp only[af,aB] at hs;obtain⟨rfl,rfl,_⟩:=hs;exact abl hm h hg hk e1 hp hle hy yd hl
  ·cases hs
 ·simp only[eS] at hs;split at hs
  ·rename_i b off e1;split at hs
   case h_2=>cases hs
   rename_i m cs yf hbk;split at hs
   case isFalse=>cases hs
   rename_i hl;simp only[af,aB] at hs;obtain⟨rfl,rfl,_⟩:=hs;exact abk hm h hg hk e1 yf hbk hl
  ·split at hs
   case h_2=>cases hs
   rename_i u hu;simp only[af,aB] at hs;obtain⟨rfl,rfl,_⟩:=hs;exact Ty hm h hg hk hu
 ·simp only[eS] at hs;split at hs
  case h_2=>cases hs
  rename_i k' p off n e1;split at hs
  ·rename_i hn;subst hn;split at hs
   case h_2=>cases hs
   rename_i ys hy;split at hs
   case isFalse=>cases hs
   rename_i hc;obtain⟨rfl,hl⟩:=hc;simp only[af,aB] at hs;obtain⟨rfl,rfl,_⟩:=hs;exact Yz hm h hg hk e1 hy hl
  ·rename_i hn;split at hs
   case h_2=>cases hs
   rename_i xX xs ys hp hy;split at hs
   case isFalse=>cases hs
   rename_i hc;obtain⟨rfl,rfl,hle,hl⟩:=hc;simp only[af,aB] at hs;obtain⟨rfl,rfl,_⟩:=hs;exact Yy hm h hg hk e1 hp hle hn hy hl
 ·simp only[eS,af,aB] at hs;obtain⟨rfl,rfl,_⟩:=hs;exact Yu hm h hg hk
 ·simp only[eS] at hs;split at hs
  case h_2=>cases hs
  rename_i b e1;split at hs
  case h_2=>cases hs
  rename_i es e2;split at hs
  case isFalse=>cases hs
  rename_i hp;split at hs
  case h_2=>cases hs
  rename_i r e3;split at hs
  case isFalse=>cases hs
  rename_i hz;simp only[af,aB] at hs;obtain⟨rfl,rfl,_⟩:=hs;exact Yw hm h hg hk e1 e2 hp e3 hz
 ·simp only[eS] at hs;split at hs
  case h_2=>cases hs
  rename_i b e1;split at hs
  case h_2=>cases hs
  rename_i es e2;split at hs
  case isFalse=>cases hs
  rename_i hp;split at hs
  case h_2=>cases hs
  rename_i r e3;simp only[af,aB] at hs;obtain⟨rfl,rfl,_⟩:=hs;exact Yt hm h hg hk e1 e2 hp e3
end
end Go.Bm

/- Calls: arguments by value. -/
namespace Go.Bm
open Go.Am
section
variable {P:Program} {X:Nat->Prop} {φ φ':cZ} {w w':World} {N N':Names} {s s' s1:St} {Ha Ha':Heap} {t t':Nat->Value} {B:Nat->Nat} {base:Nat} {v va:AV} {v':Value} {c:dO} {o:Oper} {a:Act} {kd:Kd} {call:Nat->List AV->Heap->Option (AV × Heap)}
theorem DJ (h:bV X φ w Ha) {n k:Nat} {xs:List AV} (ho:qV Ha (some n) k xs) {off len:Nat} (hle:off+len<=xs.length) {v:Value} (r:bF (Rd X φ w) φ (.sl k n (off*k) len) v) :
  bF (Rd X [] w) [] (.list k ((xs.drop off).take len)) v:=by
 obtain⟨g,sz,jU,hX,hc⟩:=xP h ho;have Cl:∀a u,Rd X φ w a u->Rd X [] w a u:=fun a u ⟨h1,_,h3⟩=>⟨h1,bX.nil _,h3⟩;cases r with
 |sl _ _ _ _ _ a cap hb iP hh=>
   obtain⟨h1,h2⟩:=hh g sz jU;by_cases h0:len=0
   ·subst h0;simp only[nX];exact .vO _ _ _ _ _ _ (fun _ _=>undef) rfl iP (fun x hx=>by simp at hx) (fun i j x c hx=>by simp at hx) (fun i j x c hx=>by simp at hx)
   ·have ha:=h1 (by omega);subst ha
    have hx:∀(i:Nat) (x:AV),((xs.drop off).take len)[i]?=some x->xs[off+i]?=some x/\i<len:=by
     intro i x hx;rw[bE] at hx;split at hx
     ·rw[aW] at hx; exact⟨hx,‹_›⟩
     ·cases hx
    obtain⟨cs,q1,q2,hk,q4⟩:=ho;refine .vO _ _ _ _ _ _ (fun i j=>(w.cell? ⟨g,(off+i)*k+j,none⟩).getD undef) (by simp; omega) iP (fun x hm=>?_) (fun i j x c hi hj=>?_) (fun i j x c hi hj=>?_)
    ·exact hk x (cT (cS hm))
    ·obtain⟨u,u1,_,_⟩:=hc _ j x c (hx i x hi).1 hj;rw[u1,Addr.iq,show off*k+(i*k+j)=(off+i)*k+j by rw[ct]; omega];exact⟨hX,bX.nil _,u1⟩
    ·obtain⟨u,u1,_,u3⟩:=hc _ j x c (hx i x hi).1 hj;rw[u1];exact u3.mono Cl (.refl _)
mutual
theorem fw (h:er X φ w N s Ha t):∀(x y:AV),ks false s x=some y->cB (au s) s.H.length x->(pl y=true/\∀ v,bF (Rd X φ w) φ (cC N x) v->bF (Rd X [] w) [] y v)
 |.dz k p off len,y,hf,hk=>by
   simp only[ks] at hf;split at hf
   case h_2=>cases hf
   rename_i k' xs hp;split at hf
   case isFalse=>cases hf
   rename_i hc;obtain⟨rfl,hle⟩:=hc;simp at hf;subst hf;refine⟨rfl,fun v r=>?_⟩;have eM:=h.own p k' xs hp;rcases sZ h hk with⟨n,hn,e2⟩|⟨hn,h0,h1,e2⟩
   ·rw[e2] at r;rw[hn] at eM;exact DJ h.heap eM hle r
   ·rw[e2] at r;subst h1;simp only[nX];cases r;exact .j7 _ _
 |.agg cs,y,hf,hk=>by
   simp only[ks] at hf;split at hf
   case h_2=>cases hf
   rename_i ds hd;simp at hf;subst hf;simp only[cB] at hk;obtain⟨h1,h2,h3⟩:=w9 h cs ds hd hk;refine⟨h1,fun v r=>?_⟩;simp only[cC] at r;cases r with
   |agg _ _ vs hl hh=>exact .agg _ _ _ (by rw[h2,<-dB N cs]; exact hl) (fun i d u Du hu=>h3 i d u Du (fun z hz=>hh i z u hz hu))
 |.dF cs,y,hf,hk=>by
   simp only[ks] at hf;split at hf
   case h_2=>cases hf
   rename_i ds hd;simp at hf;subst hf;simp only[cB] at hk;obtain⟨h1,h2,h3⟩:=w9 h cs ds hd hk;refine⟨h1,fun v r=>?_⟩;simp only[cC] at r;cases r with
   |dF _ _ vs hl hh=>exact .dF _ _ _ (by rw[h2,<-dB N cs]; exact hl) (fun i d u Du hu=>h3 i d u Du (fun z hz=>hh i z u hz hu))
 |.func f a b,y,hf,hk=>by
   simp only[ks] at hf;split at hf
   case h_2=>cases hf
   rename_i a' b' ha hb;simp at hf;subst hf;simp only[cB] at hk;obtain⟨h1,h2,h3⟩:=w9 h a a' ha hk.1;obtain⟨k1,k2,k3⟩:=w9 h b b' hb hk.2.1
   have hny:An f=false:=by
    cases hy:An f with
    |false=>rfl
    |true=>obtain⟨_,c,rfl⟩:=hk.2.2 hy; simp[Cv,ks] at hb
   refine⟨by simp only[pl,ae,bt]; exact⟨hny,h1,k1⟩,fun v r=>?_⟩;simp only[cC] at r;rcases r.w8 with⟨hy,va,vb,rfl,zT,zS,hra,hrb⟩|⟨_,_,rfl,_⟩
   case inr=>simp[An] at hny
   ·exact .func _ _ _ _ _ _ hy (by rw[h2,<-dB N a]; exact zT) (by rw[k2,<-dB N b]; exact zS) (fun i d u Du hu=>h3 i d u Du (fun z hz=>hra i z u hz hu)) (fun i d u Du hu=>k3 i d u Du (fun z hz=>hrb i z u hz hu))
 |.own _ _,y,hf,hk=>by simp[ks] at hf
 |.eV _ _ _ _,y,hf,hk=>by simp[ks] at hf
 |.ptr _ _,y,hf,hk=>by simp[ks] at hf
 |.sl _ _ _ _,y,hf,hk=>by simp[ks] at hf
 |.any,y,hf,hk=>by simp[ks] at hf
 |.undef,y,hf,hk=>by simp[ks] at hf; subst hf; exact⟨rfl,fun v r=>(r.dC rfl []).mono (fun a u ⟨h1,_,h3⟩=>⟨h1,bX.nil _,h3⟩) (.refl _)⟩
 |.fo,y,hf,hk=>by simp[ks] at hf; subst hf; exact⟨rfl,fun v r=>(r.dC rfl []).mono (fun a u ⟨h1,_,h3⟩=>⟨h1,bX.nil _,h3⟩) (.refl _)⟩
 |.fv,y,hf,hk=>by simp[ks] at hf; subst hf; exact⟨rfl,fun v r=>(r.dC rfl []).mono (fun a u ⟨h1,_,h3⟩=>⟨h1,bX.nil _,h3⟩) (.refl _)⟩
 |.dp,y,hf,hk=>by simp[ks] at hf; subst hf; exact⟨rfl,fun v r=>(r.dC rfl []).mono (fun a u ⟨h1,_,h3⟩=>⟨h1,bX.nil _,h3⟩) (.refl _)⟩
 |.int _ _,y,hf,hk=>by simp[ks] at hf; subst hf; exact⟨rfl,fun v r=>(r.dC rfl []).mono (fun a u ⟨h1,_,h3⟩=>⟨h1,bX.nil _,h3⟩) (.refl _)⟩
 |.bool _,y,hf,hk=>by simp[ks] at hf; subst hf; exact⟨rfl,fun v r=>(r.dC rfl []).mono (fun a u ⟨h1,_,h3⟩=>⟨h1,bX.nil _,h3⟩) (.refl _)⟩
 |.str _,y,hf,hk=>by simp[ks] at hf; subst hf; exact⟨rfl,fun v r=>(r.dC rfl []).mono (fun a u ⟨h1,_,h3⟩=>⟨h1,bX.nil _,h3⟩) (.refl _)⟩
 |.list _ _,y,hf,hk=>by simp[ks] at hf; subst hf; exact⟨rfl,fun v r=>(r.dC rfl []).mono (fun a u ⟨h1,_,h3⟩=>⟨h1,bX.nil _,h3⟩) (.refl _)⟩
 |.dh _,y,hf,hk=>by simp[ks] at hf; subst hf; exact⟨rfl,fun v r=>(r.dC rfl []).mono (fun a u ⟨h1,_,h3⟩=>⟨h1,bX.nil _,h3⟩) (.refl _)⟩
theorem w9 (h:er X φ w N s Ha t):∀(xs ys:List AV),Cv false s xs=some ys->jZ (au s) s.H.length xs->(eE ys=true/\ys.length=xs.length/\∀ (i:Nat) (y:AV) (v:Value),ys[i]?=some y->(∀z,(kj N xs)[i]?=some z->bF (Rd X φ w) φ z v)->bF (Rd X [] w) [] y v)
 |[],ys,hf,_=>by simp[Cv] at hf; subst hf; exact⟨rfl,rfl,fun i y v hy=>by simp at hy⟩
 |x::r,ys,hf,hk=>by
   simp only[Cv] at hf;split at hf
   case h_2=>cases hf
   rename_i y Ak h1 h2;simp at hf;subst hf;obtain⟨a1,a2⟩:=fw h x y h1 hk.1;obtain⟨b1,b2,b3⟩:=w9 h r Ak h2 hk.2;refine⟨by simp only[eE,ae]; exact⟨a1,b1⟩,by simp[b2],fun i z v hz hv=>?_⟩;cases i with
   |zero=>simp[kj] at hz hv; subst hz; exact a2 v hv
   |succ i=>simp[kj] at hz hv; exact b3 i z v hz hv
end
theorem Z2 (h:er X φ w N s Ha t) {r:Rt} {x y:AV} (hx:at_ s r=some x) (hf:QR x=some y):(pl y=true/\y.cells=[y])/\∀ v,bF (Rd X φ w) φ (iJ N r x) v->bF (Rd X [] w) [] y v:=by
 unfold QR at hf;split at hf
 ·rename_i k xs;simp at hf;subst hf;refine⟨⟨rfl,rfl⟩,fun v rv=>?_⟩;have eM:=h.own r k xs (bY.2 hx);simp only[iJ,rA] at rv;cases hn:N.ν r with
  |none=>
    rw[hn] at eM rv;have:xs=[]:=eM;subst this;simp only at rv;cases rv;exact .j7 _ _
  |some n=>
    rw[hn] at eM rv;have:=DJ (off:=0) (len:=xs.length) h.heap eM (by omega) (v:=v) (by simpa using rv);simpa using this
 ·rename_i gV;split at hf
  case isFalse=>cases hf
  rename_i hz;simp at hf;subst hf;obtain⟨h1,h2⟩:=lG hz;refine⟨⟨h1,by cases x<;>first|rfl|(simp[AV.leaf] at h2; done)⟩,fun v rv=>?_⟩;have e:iJ N r x=cC N x:=by cases x<;>first|rfl|exact (gV _ _ rfl).elim
  rw[e,kg N x h1] at rv;exact (rv.dC (fT _ h1) []).mono (fun a u ⟨h1,_,h3⟩=>⟨h1,bX.nil _,h3⟩) (.refl _)
theorem Jw:∀{cs ys:List AV},yV cs=some ys->ys.length=cs.length/\∀ (i:Nat) (y:AV),ys[i]?=some y->∃x,cs[i]?=some x/\QR x=some y
 |[],ys,h=>by simp[yV] at h; subst h; exact⟨rfl,fun i y hy=>by simp at hy⟩
 |x::r,ys,h=>by
   simp only[yV] at h;split at h
   case h_2=>cases h
   rename_i y Ak h1 h2;simp at h;subst h;obtain⟨k1,k2⟩:=Jw h2;refine⟨by simp[k1],fun i z hz=>?_⟩;cases i with
   |zero=>simp at hz; subst hz; exact⟨x,rfl,h1⟩
   |succ i=>simp at hz; obtain⟨u,u1,u2⟩:=k2 i z hz; exact⟨u,by simpa using u1,u2⟩
theorem Oh (h:er X φ w N s Ha t) {k b off len:Nat} {y:AV} (hf:Oi s k b off len=some y):pl y=true/\∀ v,bF (Rd X φ w) φ (cC N (.sl k b off len)) v->bF (Rd X [] w) [] y v:=by
 unfold Oi at hf;split at hf
 case h_2=>cases hf
 rename_i cs hb;split at hf
 case isFalse=>cases hf
 rename_i hc;obtain⟨rfl,hle⟩:=hc;split at hf
 case h_2=>cases hf
 rename_i ys hy;simp at hf;subst hf;refine⟨rfl,fun v r=>?_⟩;obtain⟨as,a1,a2,a3⟩:=h.box b cs hb;obtain⟨k1,k2⟩:=Jw hy;have hyl:ys.length=len:=by rw[k1,bj,List.length_drop]; omega
 simp only[cC] at r;cases r with
 |sl _ _ _ _ _ a cap iV iP hh=>
   obtain⟨g,sz,arr,e,g1,g2,g3,g4,g5,g6⟩:=h.heap.cat a1 (fun g sz q=>by have:=(hh g sz q).2; omega);obtain⟨h1,h2⟩:=hh g sz g1;by_cases h0:len=0
   ·subst h0;have:ys=[]:=dI hyl;subst this;exact .vO _ _ _ _ _ _ (fun _ _=>undef) rfl iP (fun x hx=>by simp at hx) (fun i j x c hx=>by simp at hx) (fun i j x c hx=>by simp at hx)
   ·have ha:=h1 (by omega);subst ha
    have cell:∀(i:Nat) (y:AV),ys[i]?=some y->(pl y=true/\y.cells=[y])/\∃ u,w.cell? ⟨g,off+i,none⟩=some u/\bF (Rd X [] w) [] y u:=by
     intro i y hi;obtain⟨x,x1,x2⟩:=k2 i y hi
     have x3:cs[off+i]?=some x:=by
      rw[bE] at x1;split at x1
      ·rw[aW] at x1; exact x1
      ·cases x1
     obtain⟨_,a',b1,b2⟩:=a3 _ x x3;obtain⟨u,u1,u2⟩:=g6 _ a' b1;obtain⟨c1,c2⟩:=Z2 h (r:=.c b (off+i)) (x:=x) (by simp only[at_,hb]; exact x3) x2;exact⟨c1,u,by rw[gS g2]; exact u1,c2 u (b2 _ _ _ u2)⟩
    refine .vO _ _ _ _ _ _ (fun i j=>(w.cell? ⟨g,off+i,none⟩).getD undef) hyl.symm iP (fun x hm=>?_) (fun i j x c hi hj=>?_) (fun i j x c hi hj=>?_)
    ·obtain⟨i,hi⟩:=bz hm;rw[(cell i x hi).1.2]; rfl
    ·obtain⟨⟨q1,q2⟩,u,u1,u2⟩:=cell i x hi;rw[q2] at hj;have hj0:j=0:=by have:=ak hj; simp at this; exact this
     subst hj0;rw[u1,Addr.iq,show off+(i*1+0)=off+i by omega];exact⟨g5,bX.nil _,u1⟩
    ·obtain⟨⟨q1,q2⟩,u,u1,u2⟩:=cell i x hi;rw[q2] at hj;have hj0:j=0:=by have:=ak hj; simp at this; exact this
     subst hj0;simp at hj;subst hj;rw[u1];exact u2
mutual
theorem Oj (h:er X φ w N s Ha t):∀(x y:AV),QQ s x=some y->cB (au s) s.H.length x->(pl y=true/\∀ v,bF (Rd X φ w) φ (cC N x) v->bF (Rd X [] w) [] y v)
 |.sl k b off len,y,hf,_=>by simp only[QQ] at hf; exact Oh h hf
 |.dF cs,y,hf,hk=>by
   simp only[QQ] at hf;split at hf
   case h_2=>cases hf
   rename_i ds hd;simp at hf;subst hf;simp only[cB] at hk;obtain⟨h1,h2,h3⟩:=Ju h cs ds hd hk;refine⟨h1,fun v r=>?_⟩;simp only[cC] at r;cases r with
   |dF _ _ vs hl hh=>exact .dF _ _ _ (by rw[h2,<-dB N cs]; exact hl) (fun i d u Du hu=>h3 i d u Du (fun z hz=>hh i z u hz hu))
 |.any,y,hf,hk=>fw h _ y hf hk
 |.undef,y,hf,hk=>fw h _ y hf hk
 |.fo,y,hf,hk=>fw h _ y hf hk
 |.fv,y,hf,hk=>fw h _ y hf hk
 |.dp,y,hf,hk=>fw h _ y hf hk
 |.int _ _,y,hf,hk=>fw h _ y hf hk
 |.bool _,y,hf,hk=>fw h _ y hf hk
 |.str _,y,hf,hk=>fw h _ y hf hk
 |.agg _,y,hf,hk=>fw h _ y hf hk
 |.list _ _,y,hf,hk=>fw h _ y hf hk
 |.dh _,y,hf,hk=>fw h _ y hf hk
 |.ptr _ _,y,hf,hk=>fw h _ y hf hk
 |.func _ _ _,y,hf,hk=>fw h _ y hf hk
 |.own _ _,y,hf,hk=>fw h _ y hf hk
 |.dz _ _ _ _,y,hf,hk=>fw h _ y hf hk
 |.eV _ _ _ _,y,hf,hk=>fw h _ y hf hk
theorem Ju (h:er X φ w N s Ha t):∀(xs ys:List AV),Jv s xs=some ys->jZ (au s) s.H.length xs->(eE ys=true/\ys.length=xs.length/\∀ (i:Nat) (y:AV) (v:Value),ys[i]?=some y->(∀z,(kj N xs)[i]?=some z->bF (Rd X φ w) φ z v)->bF (Rd X [] w) [] y v)
 |[],ys,hf,_=>by simp[Jv] at hf; subst hf; exact⟨rfl,rfl,fun i y v hy=>by simp at hy⟩
 |x::r,ys,hf,hk=>by
   simp only[Jv] at hf;split at hf
   case h_2=>cases hf
   rename_i y Ak h1 h2;simp at hf;subst hf;obtain⟨a1,a2⟩:=Oj h x y h1 hk.1;obtain⟨b1,b2,b3⟩:=Ju h r Ak h2 hk.2;refine⟨by simp only[eE,ae]; exact⟨a1,b1⟩,by simp[b2],fun i z v hz hv=>?_⟩;cases i with
   |zero=>simp[kj] at hz hv; subst hz; exact a2 v hv
   |succ i=>simp[kj] at hz hv; exact b3 i z v hz hv
end
theorem GK (h:er X φ w N s Ha t):∀(xs ys:List AV),uj s xs=some ys->jZ (au s) s.H.length xs->(eE ys=true/\ys.length=xs.length/\∀ (i:Nat) (y:AV) (v:Value),ys[i]?=some y->(∀z,(gM N xs)[i]?=some z->bF (Rd X φ w) φ z v)->bF (Rd X [] w) [] y v)
 |[],ys,hf,_=>by simp[uj] at hf; subst hf; exact⟨rfl,rfl,fun i y v hy=>by simp at hy⟩
 |x::r,ys,hf,hk=>by
   have gen:∀{y Ak},(pl y=true/\∀ v,bF (Rd X φ w) φ (cC N x) v->bF (Rd X [] w) [] y v)->uj s r=some Ak->(∀k l,x≠.own k l)->ys=y::Ak->(eE ys=true/\ys.length=(x::r).length/\∀ (i:Nat) (y:AV) (v:Value),ys[i]?=some y->(∀z,(gM N (x::r))[i]?=some z->bF (Rd X φ w) φ z v)->bF (Rd X [] w) [] y v):=by
    intro y Ak h1 h2 hn e;subst e;obtain⟨a1,a2⟩:=h1;obtain⟨b1,b2,b3⟩:=GK h r Ak h2 hk.2;have ex:fV N x=cC N x:=by cases x<;>first|rfl|exact absurd rfl (hn _ _)
    refine⟨by simp only[eE,ae]; exact⟨a1,b1⟩,by simp[b2],fun i z v hz hv=>?_⟩;cases i with
    |zero=>simp[gM] at hz hv; subst hz; rw[ex] at hv; exact a2 v hv
    |succ i=>simp[gM] at hz hv; exact b3 i z v hz hv
   by_cases ho:∃k,x=.own k []
   ·obtain⟨k,rfl⟩:=ho;simp only[uj] at hf;split at hf
    case h_2=>cases hf
    rename_i Ak h2;simp at hf;subst hf;obtain⟨b1,b2,b3⟩:=GK h r Ak h2 hk.2;refine⟨by simp only[eE,pl,Pw]; exact b1,by simp[b2],fun i z v hz hv=>?_⟩;cases i with
    |zero=>
      simp[gM,fV] at hz hv;subst hz;cases hv;exact .j7 _ _
    |succ i=>simp[gM] at hz hv; exact b3 i z v hz hv
   ·have hn:∀k l,x≠.own k l:=by
     rintro k l rfl;cases l with
     |nil=>exact ho ⟨k,rfl⟩
     |cons z l=>simp[uj,ks] at hf
    by_cases qP:∃k b off len,x=.sl k b off len
    ·obtain⟨k,b,off,len,rfl⟩:=qP;simp only[uj] at hf;split at hf
     case h_2=>cases hf
     rename_i y Ak h1 h2;simp at hf;exact gen (Oh h h1) h2 hn hf.symm
    rw[uj] at hf
    ·split at hf
     case h_2=>cases hf
     rename_i y Ak h1 h2;simp at hf;exact gen (fw h x y h1 hk.1) h2 hn hf.symm
    ·exact fun k e=>ho ⟨k,e⟩
    ·exact fun k b off len e=>qP ⟨k,b,off,len,e⟩
end
end Go.Bm

/- Calls of functions that see no boxes. -/
namespace Go.Bm
open Go.Am
section
variable {P:Program} {X:Nat->Prop} {φ φ':cZ} {w w':World} {N N':Names} {s s' s1:St} {Ha Ha':Heap} {t t':Nat->Value} {B:Nat->Nat} {base:Nat} {v va:AV} {v':Value} {c:dO} {o:Oper} {a:Act} {kd:Kd} {call:Nat->List AV->Heap->Option (AV × Heap)}
def Hv (X:Nat->Prop) (φ:cZ) (w:World) (B:Nat->Nat) (base:Nat) (r:AV) (H':Heap) (e:Ending) (w':World):Prop:=
 ∃ v' φ',e=.returned v'/\SB X φ' w' B base ⟨[(0,r)],H'⟩ (fun i=>if i=0 then v' else undef)/\eW φ w φ' w'
def gG (P:Program) (c:dO) (call:Nat->List AV->Heap->Option (AV × Heap)):Prop:=
 ∀ f md q,c.fn f=some (md,q)->∀args H r H',(md.sh=true\/H=[])->call f args H=some (r,H')->(md.sh=true->iu H'=true)->∀X φ w B (vargs:Array Value),args.length=vargs.size->SB X φ w B H.length ⟨dN 0 args,H⟩ (fun i=>vargs.getD i undef)->Am.dH (gb c) X φ w->Calls P f vargs w (Hv X φ w B H.length r H')
theorem yS (cX:eR P c) {f:Nat} {m:Md} {q:gH} (hf:c.fn f=some (m,q)) (vargs:Array Value):(callFunc f vargs).run P w=.ok (.enter f vargs) w:=by
 obtain⟨fn,h1,h2⟩:=cX.fn f m q hf;simp only[cV,ae,bt] at h2;obtain⟨⟨⟨_,Bd⟩,_⟩,tD⟩:=h2
 have hb:fn.body.isNone=false:=by
  cases hfb:fn.body with
  |none=>rw[hfb] at tD; cases tD
  |some b=>rfl
 simp only[callFunc,Sem.run_bind,run_program,Result.andThen_ok,h1,Bd,hb,bp,if_false,Sem.run_pure]
def Ls (R:Addr->Value->Prop) (φ:cZ) (N:Names) (xs:List AV) (vs:Array Value):Prop:=xs.length=vs.size/\∀ (i:Nat) (x:AV) (v:Value),xs[i]?=some x->vs[i]?=some v->bF R φ (fV N x) v
theorem Ls.append {R:Addr->Value->Prop} {xs ys:List AV} {vs us:Array Value} (h:Ls R φ N xs vs) (k:Ls R φ N ys us):Ls R φ N (xs++ys) (vs++us):=by
 refine⟨by simp[h.1,k.1],fun i x v hx hv=>?_⟩;by_cases hi:i<xs.length
 ·rw[az hi] at hx;rw[sP (by have:=h.1; omega)] at hv;exact h.2 i x v hx hv
 ·rw[aN (by omega)] at hx;rw[Hz (by have:=h.1; omega),<-h.1] at hv;exact k.2 _ x v hx hv
theorem aam {op:Op} {f:Nat} {ys:List E} (h:cK P op (.call f ys)=true):∃ca:Call,op=.call ca/\ca.callee=.value (.func f)/\iz ca.args.toList ys=true:=by
 unfold cK at h;split at h<;>simp_all
theorem WN {op:Op} {y:E} {ys:List E} (h:cK P op (.iR y ys)=true):∃(ca:Call) (x:Operand),op=.call ca/\ca.callee=.value x/\cM x y=true/\iz ca.args.toList ys=true:=by
 unfold cK at h;split at h<;>simp_all
theorem o0 (cX:eR P c) (h:er X φ w N s Ha (tm a)) (hg:Am.dH (gb c) X φ w) (hk:cK P o.op (ku kd)=true) {f:Nat} {args:List AV} (ha:oX c s.env kd=some (f,args)) {md:Md} {q:gH} (hf:c.fn f=some (md,q)) :
  ∃ vargs:Array Value,(execOp a.eval o).run P w=.ok (.enter f vargs) w/\Ls (Rd X φ w) φ N args vargs/\jZ (au s) s.H.length args:=by
 have he:o9 X φ w (Al N s.env) a.tmps:=fun i=>by rw[mE]; exact h.env i
 have Z7:∀{os:Array Operand} {xs:List E},iz os.toList (Cx xs)=true->Ls (Rd X φ w) φ N (dv c s.env xs) (os.map a.eval)/\jZ (au s) s.H.length (dv c s.env xs):=by
  intro os xs hk;obtain⟨e1,e2⟩:=tt (cA:=gb c) h rfl hk;obtain⟨hl,hr⟩:=nH (a:=a) he hg hk;rw[e1,iw] at hl;refine⟨⟨by simpa using hl,fun i x v hx hv=>?_⟩,e2⟩;refine hr i (fV N x) v (by rw[e1,od,hx]; rfl) (by simpa using hv)
 cases kd<;>simp only[oX,reduceCtorEq] at ha
 case call f' ys=>
  simp only[af,aB] at ha;obtain⟨rfl,rfl⟩:=ha;obtain⟨ca,eP,Dv,mD⟩:=aam hk;obtain⟨e1,e2⟩:=Z7 mD;refine⟨ca.args.map a.eval,?_,e1,e2⟩;simp only[execOp,eP,resolve,Dv,Act.eval,Deferred.ofValue,invoke,Sem.run_bind,Sem.run_pure,Result.andThen_ok,Array.empty_append,Array.append_empty];exact yS cX hf _
 case iR y ys=>
  obtain⟨ca,x,eP,Dv,hx,mD⟩:=WN hk;have ho:=cq (c:=c) (cA:=gb c) h rfl hx;have rx:=bO (a:=a) he hg hx;rw[ho.ev] at rx;have HV:=ho.ok;cases e:aY c s.env y<;>rw[e] at ha rx HV<;>try (simp at ha; done)
  rename_i fn as bs;cases fn<;>simp only[reduceCtorEq] at ha
  rename_i f';split at ha
  ·cases ha
  rename_i gV;simp only[dS,not_or,Bool.not_eq_true] at gV;simp only[af,aB] at ha;obtain⟨rfl,rfl⟩:=ha;obtain⟨e1,e2⟩:=Z7 mD;simp only[fV,cC] at rx;simp only[cB] at HV;generalize Pg:a.eval x=ax at rx;rcases rx.w8 with⟨hy,va,vb,rfl,zT,zS,hra,hrb⟩|⟨_,_,e9,_⟩
  case inr=>cases e9
  ·rw[dB] at zT zS;have c1:Ls (Rd X φ w) φ N as va:=⟨zT,fun i x v hx hv=>hra i _ v (by rw[<-kh N gV.1,od,hx]; rfl) hv⟩;have c3:Ls (Rd X φ w) φ N bs vb:=⟨zS,fun i x v hx hv=>hrb i _ v (by rw[<-kh N gV.2,od,hx]; rfl) hv⟩;refine⟨va++ca.args.map a.eval++vb,?_,(c1.append e1).append c3,rB (rB HV.1 e2) HV.2.1⟩;simp only[execOp,eP,resolve,Dv,Pg,Deferred.ofValue,invoke,Sem.run_bind,Sem.run_pure,Result.andThen_ok];exact yS cX hf _
mutual
theorem TK {R:Addr->Value->Prop} {φ:cZ} (N:Names):∀(x:AV) {v:Value},bF R φ (cC N x) v->bF R φ (cC N (TL x)) v
 |.dz k p off n,v,r=>by
   unfold TL;split
   ·rename_i h; subst h;simp only[cC] at r ⊢;split at r
    ·cases r with
     |sl _ _ _ _ _ a cap hb hc h=>exact .vO _ _ _ _ _ _ (fun _ _=>undef) rfl hc (fun x hx=>by simp at hx) (fun i j x c hx=>by simp at hx) (fun i j x c hx=>by simp at hx)
    ·cases r; exact .j7 _ _
   ·exact r
 |.agg cs,v,r=>by
   simp only[TL,cC] at r ⊢;cases r with
   |agg _ _ vs hl h=>
     obtain⟨l1,l2⟩:=F7 (R:=R) (φ:=φ) N cs;refine .agg _ _ _ (by rw[dB,l1,<-dB N cs]; exact hl) fun i c u hc hu=>?_;rw[lT] at hc;cases e:(AW cs)[i]? with
     |none=>rw[e] at hc; cases hc
     |some y=>
       rw[e] at hc;simp only[cj,af] at hc;subst hc;obtain⟨x,hx⟩:=aZ (l:=cs) (i:=i) (by have:=ak e; omega);exact l2 i x y u hx e (h i _ u (by rw[lT,hx]; rfl) hu)
 |.any,v,r=>r|.undef,v,r=>r|.fo,v,r=>r|.fv,v,r=>r|.dp,v,r=>r
 |.int _ _,v,r=>r|.bool _,v,r=>r|.str _,v,r=>r|.dF _,v,r=>r
 |.list _ _,v,r=>r|.dh _,v,r=>r|.ptr _ _,v,r=>r|.sl _ _ _ _,v,r=>r
 |.func _ _ _,v,r=>r|.own _ _,v,r=>r|.eV _ _ _ _,v,r=>r
theorem F7 {R:Addr->Value->Prop} {φ:cZ} (N:Names):∀(cs:List AV),(AW cs).length=cs.length/\∀ (i:Nat) (x y:AV) (v:Value),cs[i]?=some x->(AW cs)[i]?=some y->bF R φ (cC N x) v->bF R φ (cC N y) v
 |[]=>⟨rfl,fun i x y v hx=>by simp at hx⟩
 |c::r=>by
   obtain⟨l1,l2⟩:=F7 (R:=R) (φ:=φ) N r;refine⟨by simp[AW,l1],fun i x y v hx hy rr=>?_⟩;cases i with
   |zero=>simp[AW] at hx hy; subst hx; subst hy; exact TK N c rr
   |succ i=>exact l2 i x y v (by simpa using hx) (by simpa[AW] using hy) rr
end
theorem YM {R:Addr->Value->Prop} {φ:cZ} (N:Names) (x:AV) {v:Value} (r:bF R φ (fV N x) v):bF R φ (fV N (TL x)) v:=by
 by_cases h:∃k xs,x=.own k xs
 ·obtain⟨k,xs,rfl⟩:=h;simpa[TL] using r
 ·have e1:fV N x=cC N x:=by cases x<;>first|rfl|exact absurd ⟨_,_,rfl⟩ h
  have e2:fV N (TL x)=cC N (TL x):=by
   cases x<;>simp only[TL]<;>first|rfl|exact absurd ⟨_,_,rfl⟩ h|(split<;>rfl)
  rw[e2];rw[e1] at r;exact TK N x r
mutual
theorem afe {o:Rt->Option (Nat × List AV)} {nb:Nat}:∀(x:AV),cB o nb x->cB o nb (TL x)
 |.dz k p off n,h=>by
   unfold TL;split
   ·trivial
   ·exact h
 |.agg cs,h=>by
   simp only[TL,cB] at h ⊢;exact Ku cs h
 |.any,h=>h|.undef,h=>h|.fo,h=>h|.fv,h=>h|.dp,h=>h
 |.int _ _,h=>h|.bool _,h=>h|.str _,h=>h|.dF _,h=>h
 |.list _ _,h=>h|.dh _,h=>h|.ptr _ _,h=>h|.sl _ _ _ _,h=>h
 |.func _ _ _,h=>h|.own _ _,h=>h|.eV _ _ _ _,h=>h
theorem Ku {o:Rt->Option (Nat × List AV)} {nb:Nat}:∀(cs:List AV),jZ o nb cs->jZ o nb (AW cs)
 |[],_=>trivial
 |x::r,h=>⟨afe x h.1,Ku r h.2⟩
end
theorem MT:∀(cs:List AV) (i:Nat),(AW cs)[i]?=(cs[i]?).map TL
 |[],i=>by simp[AW]
 |x::r,i=>by cases i<;>simp[AW,MT r]
theorem zZ (cX:eR P c) (h:er X φ w N s Ha (tm a)) (hg:Am.dH (gb c) X φ w) (hk:cK P o.op (ku kd)=true) {f:Nat} {args:List AV} (ha:getArgs c s.env kd=some (f,args)) {md:Md} {q:gH} (hf:c.fn f=some (md,q)) :
  ∃ vargs:Array Value,(execOp a.eval o).run P w=.ok (.enter f vargs) w/\Ls (Rd X φ w) φ N args vargs/\jZ (au s) s.H.length args:=by
 unfold getArgs at ha;cases h0:oX c s.env kd with
 |none=>rw[h0] at ha; cases ha
 |some z=>
   obtain⟨f0,adY⟩:=z;rw[h0] at ha;simp only[af,aB] at ha;obtain⟨rfl,rfl⟩:=ha;obtain⟨vargs,h1,h2,h3⟩:=o0 cX h hg hk h0 hf;refine⟨vargs,h1,?_⟩;split
   ·refine⟨⟨?_,fun i x v hx hv=>?_⟩,Ku _ h3⟩
    ·have l1:=(F7 (R:=Rd X φ w) (φ:=φ) N adY).1;rw[l1]; exact h2.1
    ·rw[MT] at hx;cases e:adY[i]? with
     |none=>rw[e] at hx; cases hx
     |some y=>
       rw[e] at hx;simp only[cj,af] at hx;subst hx;exact YM N y (h2.2 i y v e hv)
   ·exact⟨h2,h3⟩
theorem ze (N:Names) (i:Nat) {x:AV} (h:pl x=true):jY N i x=x:=by
 by_cases ha:∃cs,x=.agg cs
 ·obtain⟨cs,rfl⟩:=ha;simp only[jY];simp only[pl] at h;congr 1;apply dy;intro j;rw[fE];cases hc:cs[j]? with
  |none=>rfl
  |some d=>
    simp only[cj]
    have hd:pl d=true:=by
     have:∀{l:List AV},eE l=true->∀z∈l,pl z=true:=by
      intro l
      induction l with
      |nil=>intro _ z hz; simp at hz
      |cons y r ih=>
        intro h z hz;simp only[eE,ae] at h;rcases aO.1 hz with e|e
        ·subst e; exact h.1
        ·exact ih h.2 z e
     exact this h d (bf hc)
    congr 1;cases d<;>first|exact kg N _ hd|(simp[pl] at hd; done)
 ·have hn:jd x:=fun cs e=>ha ⟨cs,e⟩;cases x<;>first|exact kg N _ h|exact absurd rfl (hn _)|(simp[pl] at h; done)
theorem SB.start {args:List AV} {vargs:Array Value} (hx:∀g,X g->g<w.heap.size) (hp:eE args=true) (hl:args.length=vargs.size) (hr:∀(i:Nat) (x:AV) (v:Value),args[i]?=some x->vargs[i]?=some v->bF (Rd X [] w) [] x v) (B:Nat->Nat) :
  SB X [] w B 0 ⟨dN 0 args,[]⟩ (fun i=>vargs.getD i undef):=by
 have BF:∀i,get (dN 0 args) i=args[i]?.getD .any:=fun i=>by rw[tE]; simp
 have mX:∀i,pl (get (dN 0 args) i)=true:=fun i=>by
  rw[BF];cases e:args[i]? with
  |none=>rfl
  |some x=>exact fU hp i x e
 have gV:∀p,au ⟨dN 0 args,[]⟩ p=none:=by
  intro p;cases p with
  |s i=>exact (dM (s:=⟨dN 0 args,[]⟩) (tY (mX i))).1
  |sc i j=>exact (dM (s:=⟨dN 0 args,[]⟩) (tY (mX i))).2 j
  |c b j=>unfold au; simp[at_,aJ]
 refine⟨⟨fun _=>0,fun _=>none⟩,[],⟨fun i=>?_,fun i=>vv _ (mX i),⟨rfl,hx,fun b cs hb=>by simp at hb,fun b hb=>by simp at hb,fun b b' g sz pe h1=>by simp at h1⟩,fun p k xs e=>?_,fun b cs e=>?_,fun p q n e1=>?_,fun b p e1=>?_,fun b d e1=>?_⟩,fun b hb=>by omega,Lt _⟩
 ·rw[ze _ _ (mX i),BF];cases e:args[i]? with
  |none=>exact .any _ _
  |some x=>
    obtain⟨v,hv⟩:=bW (l:=vargs) (i:=i) (by have:=ak e; omega);simp only[eZ];rw[bh,hv];exact hr i x v e hv
 ·rw[gV] at e; cases e
 ·simp[aJ] at e
 ·rw[gV] at e1; cases e1
 ·simp[aJ] at e1
 ·simp[aJ] at e1
end
end Go.Bm

/- Calls of functions that see no boxes: what comes back. -/
namespace Go.Bm
open Go.Am
mutual
theorem Cy {R R':Addr->Value->Prop} {φ φ':cZ} {N N':Names}:∀x,clean x=true->∀v,bF R φ (cC N x) v->bF R' φ' (cC N' x) v
 |.list k xs,h,v,r=>by
   simp only[clean,fa] at h;subst h;simp only[cC] at r ⊢;cases r with
   |vO _ _ _ a n cap u hn iP hk hu hh=>subst hn; exact .vO _ _ _ _ _ _ u rfl iP hk (fun i j x c hx=>by simp at hx) (fun i j x c hx=>by simp at hx)
   |j7=>exact .j7 _ _
 |.agg cs,h,v,r=>by
   simp only[clean] at h;simp only[cC] at r ⊢;cases r with
   |agg _ _ vs hl hh=>exact .agg _ _ _ (by rw[dB] at hl ⊢; exact hl) (fun i d u hd hu=>Ab cs h i d u hd (fun z hz=>hh i z u hz hu))
 |.dF cs,h,v,r=>by
   simp only[clean] at h;simp only[cC] at r ⊢;cases r with
   |dF _ _ vs hl hh=>exact .dF _ _ _ (by rw[dB] at hl ⊢; exact hl) (fun i d u hd hu=>Ab cs h i d u hd (fun z hz=>hh i z u hz hu))
 |.own _ _,_,v,_=>.any _ _
 |.dh _,h,_,_=>by simp[clean] at h
 |.any,h,_,_=>by simp[clean] at h
 |.func _ _ _,h,_,_=>by simp[clean] at h
 |.dz _ _ _ _,h,_,_=>by simp[clean] at h
 |.eV _ _ _ _,h,_,_=>by simp[clean] at h
 |.ptr _ _,h,_,_=>by simp[clean] at h
 |.sl _ _ _ _,h,_,_=>by simp[clean] at h
 |.undef,_,v,r=>by simp only[cC] at r ⊢; cases r; exact .undef _
 |.fo,_,v,r=>by simp only[cC] at r ⊢; cases r; exact .fo _
 |.fv,_,v,r=>by simp only[cC] at r ⊢; cases r; exact .fv _
 |.dp,_,v,r=>by simp only[cC] at r ⊢; cases r; exact .dp _
 |.int _ _,_,v,r=>by simp only[cC] at r ⊢; cases r; exact .int _ _ _
 |.bool _,_,v,r=>by simp only[cC] at r ⊢; cases r; exact .bool _ _
 |.str _,_,v,r=>by simp only[cC] at r ⊢; cases r; exact .str _ _
theorem Ab {R R':Addr->Value->Prop} {φ φ':cZ} {N N':Names}:∀cs,gC cs=true->∀(i:Nat) (d:AV) (u:Value),(kj N' cs)[i]?=some d->(∀z,(kj N cs)[i]?=some z->bF R φ z u)->bF R' φ' d u
 |[],_,i,d,u,h,_=>by simp[kj] at h
 |x::r,hc,i,d,u,h,hz=>by
   simp only[gC,ae] at hc;cases i with
   |zero=>simp[kj] at h hz; subst h; exact Cy x hc.1 u hz
   |succ i=>simp[kj] at h hz; exact Ab r hc.2 i d u h hz
end
mutual
theorem OH {o:Rt->Option (Nat × List AV)} {nb:Nat}:∀x,clean x=true->cB o nb x
 |.list _ _,_=>trivial
 |.agg cs,h=>by simp only[clean] at h; exact Cz cs h
 |.dF cs,h=>by simp only[clean] at h; exact Cz cs h
 |.own _ _,_=>trivial
 |.dh _,h=>by simp[clean] at h
 |.any,h=>by simp[clean] at h
 |.func _ _ _,h=>by simp[clean] at h
 |.dz _ _ _ _,h=>by simp[clean] at h
 |.eV _ _ _ _,h=>by simp[clean] at h
 |.ptr _ _,h=>by simp[clean] at h
 |.sl _ _ _ _,h=>by simp[clean] at h
 |.undef,_=>trivial
 |.fo,_=>trivial
 |.fv,_=>trivial
 |.dp,_=>trivial
 |.int _ _,_=>trivial
 |.bool _,_=>trivial
 |.str _,_=>trivial
theorem Cz {o:Rt->Option (Nat × List AV)} {nb:Nat}:∀cs,gC cs=true->jZ o nb cs
 |[],_=>trivial
 |x::r,h=>by simp only[gC,ae] at h; exact⟨OH x h.1,Cz r h.2⟩
end
theorem OI {x:AV} (h:clean x=true):∀d∈x.cells,clean d=true:=by
 have all:∀{l:List AV},gC l=true->∀z∈l,clean z=true:=by
  intro l
  induction l with
  |nil=>intro _ z hz; simp at hz
  |cons y r ih=>
    intro h z hz;simp only[gC,ae] at h;rcases aO.1 hz with e|e
    ·subst e; exact h.1
    ·exact ih h.2 z e
 intro d hd;by_cases ha:∃cs,x=.agg cs
 ·obtain⟨cs,rfl⟩:=ha;simp only[clean] at h;exact all h d hd
 ·have:x.cells=[x]:=by cases x<;>first|rfl|exact absurd ⟨_,rfl⟩ ha
  rw[this] at hd;simp at hd;subst hd;exact h
theorem Q7 {l:List AV} (h:gC l=true):∀z∈l,clean z=true:=by
 induction l with
 |nil=>intro z hz; simp at hz
 |cons y r ih=>
   intro z hz;simp only[gC,ae] at h;rcases aO.1 hz with e|e
   ·subst e; exact h.1
   ·exact ih h.2 z e
theorem xG (N:Names) (i:Nat) {x:AV} (h:bL x=false):jY N i x=cC N x:=by
 by_cases ha:∃cs,x=.agg cs
 ·obtain⟨cs,rfl⟩:=ha;simp only[bL] at h;simp only[jY,cC];congr 1;apply dy;intro j;rw[fE,lT];cases hc:cs[j]? with
  |none=>rfl
  |some d=>
    simp only[cj];congr 1;have:=Dy h d (bf hc);cases d<;>first|rfl|exact absurd rfl (this _ _)
 ·cases x<;>first|rfl|exact absurd ⟨_,rfl⟩ ha|(simp[bL] at h; done)
section
variable {P:Program} {X:Nat->Prop} {φ oa φ':cZ} {w w1 w':World} {N N1 N':Names} {s s' s1:St} {Ha H1 Ha':Heap} {t t1 t':Nat->Value} {B:Nat->Nat} {base:Nat} {v va:AV} {v':Value} {c:dO} {o:Oper} {a:Act} {kd:Kd} {call:Nat->List AV->Heap->Option (AV × Heap)}
theorem ahC (h:er X φ w N s Ha t) (hb:(∀b,b<base->N.β b=B b)/\base<=s.H.length) (ad:eW [] w oa w1) {k:Nat} {xs:List AV} {H':Heap} (h1:er X oa w1 N1 ⟨[(0,.own k xs)],H'⟩ H1 t1) (hc:gC xs=true) :
  ∃ φ',dQ X φ' w1 B base s (.own k xs) t (t1 0)/\eW φ w φ' w1:=by
 have ho1:au ⟨[(0,.own k xs)],H'⟩ (.s 0)=some (k,xs):=rfl;have eM:=h1.own (.s 0) k xs ho1;have hr:=h1.env 0;simp only[Am.get,if_true,jY,iJ,rA] at hr;cases hn:N1.ν (.s 0) with
 |none=>
   rw[hn] at eM hr;have hx:xs=[]:=eM;subst hx;refine⟨φ,dQ.quiet (h.nO (.of_same ad) (h.heap.of_same ad) h.own (fun _ _=>rfl)) hb trivial (by simp[EO]) ?_,.of_same ad⟩;simp only at hr;simp only[vZ];generalize t1 0=z at hr ⊢;cases hr;exact .dp _
 |some n1=>
   rw[hn] at eM hr;simp only at hr;obtain⟨g,sz,jU,hX,mY⟩:=xP h1.heap eM;obtain⟨cs,c1,c2,c3,c4⟩:=eM;obtain⟨g',pe,arr,e,f1,f2,f3,f4,f5,f6⟩:=h1.heap.cat c1 (fun g sz q=>hr.BK q);rw[jU] at f1;cases f1;have hgs:w.heap.size<=g:=Nat.le_of_not_lt fun bQ=>(ad.keep g bQ (bX.nil g)).2 ⟨n1,sz,jU⟩;have Xd:=iQ c3
   have nO:eW φ w (φ++[some (g,sz)]) w1:=by
    refine⟨ad.os,ad.tape,ad.output,ad.drawn,ad.size,fun g0 bQ gV=>⟨(ad.keep g0 bQ (bX.nil g0)).1,fun ho=>?_⟩,⟨by simp,fun b p hb hp=>by rwa [az hb] at hp⟩⟩;rcases AH ho with h2|h2
    ·exact gV h2
    ·simp at h2; omega
   have hh:bV X (φ++[some (g,sz)]) w1 (Ha++[some (aA xs)]):=by
    refine⟨by simp[h.heap.len],fun g0 hg0=>fQ (h.heap.HK g0 hg0) ad.size,fun b ds yf=>?_,fun b yf=>?_,fun b b' g0 Iq sz1 e1 e2=>?_⟩
    ·by_cases bQ:b<Ha.length
     ·rw[az bQ] at yf;obtain⟨g0,Iq,arr0,e0,p1,p2,p3,p4,p5,p6⟩:=h.heap.live b ds yf;refine⟨g0,Iq,arr0,e0,by rw[az (by rw[h.heap.len]; exact bQ)]; exact p1,?_,p3,p4,p5,fun i d hd=>?_⟩
      ·rw[(ad.keep g0 (fk.1 p2).1 (bX.nil g0)).1]; exact p2
      ·obtain⟨u,u1,u2⟩:=p6 i d hd;exact⟨u,u1,nO.rep u2⟩
     ·have N9:b=Ha.length:=by have:=ak yf; simp at this; omega
      subst N9;simp at yf;subst yf;refine⟨g,sz,arr,_,by rw[<-h.heap.len]; simp,f2,.inl ⟨e,rfl,f3⟩,⟨by omega,fun z=>by omega⟩,hX,fun i d hd=>?_⟩;obtain⟨i',z,j,z1,z2,z3⟩:=(gX c3).2 i d hd;obtain⟨u,u1,u2,u3⟩:=mY i' j z d z1 z2;refine⟨u,by rw[gS f2] at u1; rw[z3]; exact u1,?_⟩;have LC:=OI (Q7 hc z (bf z1)) d (bf z2);have mX:=(lG u2).1;have:=Cy (N:=N) (N':=N) (R':=Rd X (φ++[some (g,sz)]) w1) (φ':=φ++[some (g,sz)]) d LC u (by rw[kg N _ mX]; exact u3)
      rwa [kg N _ mX] at this
    ·by_cases bQ:b<Ha.length
     ·rw[az bQ] at yf;rw[az (by rw[h.heap.len]; exact bQ)];exact h.heap.dead b yf
     ·have N9:b=Ha.length:=by have:=ak yf; simp at this; omega
      subst N9;simp at yf
    ·have new:∀(b g0 Iq:Nat),(φ++[some (g,sz)])[b]?=some (some (g0,Iq))->(b<φ.length/\φ[b]?=some (some (g0,Iq))/\g0<w.heap.size)\/(b=φ.length/\g0=g):=by
      intro b g0 Iq hb;by_cases bQ:b<φ.length
      ·rw[az bQ] at hb;exact .inl ⟨bQ,hb,(h.heap.gU ⟨b,Iq,hb⟩).1⟩
      ·have iV:=ak hb;simp at iV;have N9:b=φ.length:=by omega
       subst N9;simp at hb;exact .inr ⟨rfl,hb.1.symm⟩
     rcases new b g0 Iq e1 with⟨l1,q1,g1⟩|⟨l1,g1⟩<;>rcases new b' g0 sz1 e2 with⟨l2,q2,g2⟩|⟨l2,g2⟩
     ·exact h.heap.inj b b' g0 Iq sz1 q1 q2
     ·omega
     ·omega
     ·omega
   refine⟨φ++[some (g,sz)],Bi h hb nO hh (by omega) c3 (fun i d hd=>?_) ?_,nO⟩
   ·obtain⟨i',z,j,z1,z2,z3⟩:=(gX c3).2 i d hd;obtain⟨u,u1,u2,u3⟩:=mY i' j z d z1 z2;exact⟨u2,d,hd,(lG u2).2,Le.refl _⟩
   ·generalize t1 0=z at hr;cases hr with
    |sl _ _ _ _ _ ad' cap iV iP hh'=>
      refine .sl _ _ _ _ _ _ _ (by simp[h.heap.len]) iP fun g0 Iq e0=>?_;rw[<-h.heap.len] at e0;simp at e0;obtain⟨rfl,rfl⟩:=e0;exact hh' g sz jU
theorem ZQ {X':Nat->Prop} (hg:Am.dH (gb c) X φ w) (hx:∀g,X' g->X g\/bX φ g):Am.dH (gb c) X' [] w:=fun g=>(hg g).mono (fun a u ⟨h1,h2,h3⟩=>⟨fun h=>(hx _ h).elim h1 h2,bX.nil _,h3⟩) (.refl _)
theorem P8 (cX:eR P c) (dJ:gG P c call) (h:SB X φ w B base s (tm a)) (hg:Am.dH (gb c) X φ w) (hk:cK P o.op (ku kd)=true) {f:Nat} {args sM:List AV} (ha:getArgs c s.env kd=some (f,args)) {md:Md} {q:gH} (hf:c.fn f=some (md,q)) (iO:md.sh=false) (hz:uj s args=some sM) {r:AV} {H':Heap} (hc:call f sM []=some (r,H')) (hr:MQ r=true):kF P X φ w B base s r o a:=by
 obtain⟨N,Ha,h,hb⟩:=h;obtain⟨vargs,oT,hA,Bc⟩:=zZ cX h hg hk ha hf;obtain⟨z1,z2,z3⟩:=GK h args sM hz Bc
 have HE:=SB.start (X:=X) (w:=w) (args:=sM) (vargs:=vargs) h.heap.HK z1 (by rw[z2]; exact hA.1) (fun i x v hx hv=>z3 i x v hx (fun z hz=>by
  rw[od] at hz;cases KV:args[i]? with
  |none=>rw[KV] at hz; cases hz
  |some y=>rw[KV] at hz; simp at hz; subst hz; exact hA.2 i y v KV hv)) (fun _=>0)
 have kU:=dJ f md q hf sM [] r H' (.inr rfl) hc (fun e=>by rw[iO] at e; cases e) X [] w (fun _=>0) vargs (by rw[z2]; exact hA.1) HE (ZQ hg fun g h=>.inl h);intro K Q hK;unfold Oper.wp;rw[oT,Oper.upon_enter];refine kU.mono ?_;rintro e w1 ⟨v',oa,rfl,⟨N1,H1,gI,_⟩,ad⟩;unfold MQ at hr;simp only[ae] at hr;by_cases ho:∃k xs,r=.own k xs
 ·obtain⟨k,xs,rfl⟩:=ho;obtain⟨φ',hp,ad'⟩:=ahC h hb ad gI (by simpa[clean] using hr.1);exact hK v' w1 φ' (by simpa using hp) ad'
 ·have gV:bL r=false:=by
   have:=hr.2;cases r<;>first|exact absurd ⟨_,_,rfl⟩ ho|simpa using this
  refine hK v' w1 φ (dQ.quiet (h.nO (.of_same ad) (h.heap.of_same ad) h.own (fun _ _=>rfl)) hb (OH r hr.1) (lE gV) ?_) (.of_same ad);have r0:=gI.env 0;simp only[Am.get,if_true] at r0;rw[xG N1 0 gV] at r0;rw[kI N gV];exact Cy r hr.1 v' r0
theorem P7 (cX:eR P c) (dJ:gG P c call) (h:SB X φ w B base s (tm a)) (hg:Am.dH (gb c) X φ w) (hk:cK P o.op (ku kd)=true) {f:Nat} {args:List AV} (ha:getArgs c s.env kd=some (f,args)) {md:Md} {q:gH} (hf:c.fn f=some (md,q)) (iO:md.sh=false) (hz:eE (args.map gq)=true) {r:AV} {H':Heap} (hc:call f (args.map gq) []=some (r,H')) (hr:pl r=true):kF P X φ w B base s r o a:=by
 obtain⟨N,Ha,h,hb⟩:=h;obtain⟨vargs,oT,hA,Bc⟩:=zZ cX h hg hk ha hf;have Cl:∀a u,Rd X φ w a u->Rd (fun g=>X g\/bX φ g) [] w a u:=fun a u ⟨h1,h2,h3⟩=>⟨fun h=>h.elim h1 h2,bX.nil _,h3⟩
 have HE:=SB.start (X:=fun g=>X g\/bX φ g) (w:=w) (args:=args.map gq) (vargs:=vargs) (fun g hg=>hg.elim (h.heap.HK g) (fun ho=>(h.heap.gU ho).1)) hz (by simpa using hA.1) (fun i x v hx hv=>by
  rw[cJ] at hx;cases KV:args[i]? with
  |none=>rw[KV] at hx; cases hx
  |some y=>
    rw[KV] at hx;simp at hx;subst hx;have r0:=hA.2 i y v KV hv;have hpy:=fU hz i (gq y) (by rw[cJ,KV]; rfl);by_cases ho:∃k,y=.own k []
    ·obtain⟨k,rfl⟩:=ho;simp only[fV] at r0;cases r0;exact .j7 _ _
    ·have hn:gq y=y:=by
      unfold gq;split
      ·rename_i k; exact absurd ⟨k,rfl⟩ ho
      ·rfl
     rw[hn] at hpy ⊢;have hy:fV N y=y:=by cases y<;>first|exact kg N _ hpy|(simp[pl] at hpy; done)
     rw[hy] at r0;exact (r0.dC (fT _ hpy) []).mono Cl (.refl _)) (fun _=>0)
 have kU:=dJ f md q hf (args.map gq) [] r H' (.inr rfl) hc (fun e=>by rw[iO] at e; cases e) (fun g=>X g\/bX φ g) [] w (fun _=>0) vargs (by simpa using hA.1) HE (ZQ hg fun g h=>h);intro K Q hK;unfold Oper.wp;rw[oT,Oper.upon_enter];refine kU.mono ?_;rintro e w1 ⟨v',oa,rfl,⟨N1,H1,gI,_⟩,ad⟩;have gV:=tY hr;refine hK v' w1 φ (dQ.quiet (h.nO (.of_same ad) (h.heap.of_same ad) h.own (fun _ _=>rfl)) hb (vv r hr) (lE gV) ?_) (.of_same ad);have r0:=gI.env 0;simp only[Am.get,if_true] at r0;rw[ze N1 0 hr] at r0;rw[kI N gV,kg N _ hr];exact ((r0.dC (fT _ hr) []).mono (fun a u ⟨h1,_,h3⟩=>⟨fun h=>h1 (.inl h),fun h=>h1 (.inr h),h3⟩) (.refl _)).Jb φ
end
end Go.Bm

/- Regions in the order of the text; their ends. -/
namespace Go.Bm
open Go.Am
section
variable {P:Program} {X:Nat->Prop} {φ oa φ':cZ} {w w1 w':World} {N1 N':Names} {s s' s1:St} {B:Nat->Nat} {base:Nat} {v va:AV} {v':Value} {c:dO} {o:Oper} {a:Act} {kd:Kd} {call:Nat->List AV->Heap->Option (AV × Heap)}
structure BD (X:Nat->Prop) (φ:cZ) (w:World) (B:Nat->Nat) (base:Nat) (s:St) (a:Act) (N:Nat):Prop where
 sb:SB X φ w B base s (tm a)
 defers:a.defers=[]
 size:a.tmps.size=N
theorem ad9 {a:Act} {d:Option Nat} {v':Value} (hd:∀i,d=some i->i<a.tmps.size) (j:Nat):tm (a.put d v') j=if some j=d then v' else tm a j:=by
 cases d with
 |none=>simp[tm,Act.put]
 |some i=>
   have hi:=hd i rfl;simp only[tm,Act.put,bh];by_cases e:j=i
   ·subst e; simp[hi]
   ·simp[hU (Ne.symm e),e]
theorem BD.put {N:Nat} (h:BD X φ w B base s a N) (hN:N<=eY) {d:Option Nat} (hd:∀i,d=some i->i<N) (hp:dQ X φ' w' B base s1 v (tm a) v') (hs:yT s1 d v=some s'):∃pj,BD X pj w' B base s' (a.put d v') N/\eW φ' w' pj w':=by
 obtain⟨pj,h1,a1⟩:=aaZ (t':=tm (a.put d v')) hp hs (fun e=>by have:=hd eY e; omega) (fun j=>ad9 (fun i hi=>by rw[h.size]; exact hd i hi) j);obtain⟨h2,h3⟩:=X3 a d v';exact⟨pj,⟨h1,by rw[h3]; exact h.defers,by rw[h2]; exact h.size⟩,a1⟩
theorem dQ.undef (h:SB X φ w B base s (tm a)):dQ X φ w B base s .undef (tm a) W4:=by
 obtain⟨N,Ha,h,hb⟩:=h;exact dQ.quiet h hb trivial trivial (.undef _)
theorem LR {N:Nat} {ops:Array Oper} {q:O} {fl:Fq} (eP:∀v s1 f,eS c call s q.kd=some (v,s1,f)->kF P X φ w B base s1 v o a) (hc:K8 P N ops o (Oz q)=true) (hN:N<=eY)
  (hs:sj c call s q=some (s',fl)) (hr:BD X φ w B base s a N) {K:Act->World->Prop} {Q:Exit->Act->World->Prop} (hK:∀a' w' φ',BD X φ' w' B base s' a' N->eW φ w φ' w'->K a' w') :
  if Region.wanted o (yielded ops a.tmps) then o.wp P a w K Q\/(o.asks P a w/\LetsOut Q) else K (a.put o.dst W4) w:=by
 simp only[K8,Oz,ae,decide_eq_true_eq] at hc;obtain⟨⟨⟨ahs,hd⟩,hgd⟩,_⟩:=hc;have hdst:o.dst=q.dst:=of_decide_eq_true ahs
 have hd':∀i,o.dst=some i->i<N:=by
  intro i hi;rw[<-hdst,hi] at hd;simpa using hd
 have run:∀{v s1 f fl'},eS c call s q.kd=some (v,s1,f)->Bl s.env q.dst v s1 f=some (s',fl')->o.wp P a w K Q:=by
  intro v s1 f fl' hv hf;unfold Bl at hf;split at hf
  case h_2=>cases hf
  rename_i s2 hp;simp only[af,aB] at hf;obtain⟨rfl,_⟩:=hf;refine eP v s1 f hv K Q fun v' w' φ' zR ad=>?_;rw[<-hdst] at hp;obtain⟨pj,h1,a1⟩:=hr.put hN hd' zR hp;exact hK _ _ pj h1 (ad.trans a1)
 have no:∀{fl'},Bl s.env q.dst .undef s .no=some (s',fl')->K (a.put o.dst W4) w:=by
  intro fl' hf;unfold Bl at hf;split at hf
  case h_2=>cases hf
  rename_i s2 hp;simp only[af,aB] at hf;obtain⟨rfl,_⟩:=hf;rw[<-hdst] at hp;obtain⟨pj,h1,a1⟩:=hr.put hN hd' (dQ.undef hr.sb) hp;exact hK _ _ pj h1 a1
 have ahk:∀(g:Nat),∃N1 Ha,bF (Rd X φ w) φ (jY N1 g (get s.env g)) (tm a g)/\er X φ w N1 s Ha (tm a):=fun g=>by
  obtain⟨N1,Ha,h,_⟩:=hr.sb;exact⟨N1,Ha,h.env g,h⟩
 unfold sj at hs;split at hs
 ·rename_i hgn;rw[hgn] at hgd;split at hgd
  ·rename_i h1 _;rw[if_pos (by simp[Region.wanted,h1])];split at hs
   ·rename_i v s1 f hv;exact .inl (run hv hs)
   ·cases hs
  ·rename_i h2; simp at h2
  ·cases hgd
 ·rename_i g want hgn;rw[hgn] at hgd;split at hgd
  ·rename_i h2; simp at h2
  ·rename_i j acN g' ahD h1 h2;simp only[ae,decide_eq_true_eq] at hgd;obtain⟨hj,rfl⟩:=hgd;simp at h2;obtain⟨rfl,rfl⟩:=h2;obtain⟨N1,Ha,GA,_⟩:=ahk g;split at hs
   ·rename_i b hb;rw[hb] at GA;simp only[jY,iJ,cC] at GA;have hv:=lY GA;have hy:yielded ops a.tmps j=some b:=by unfold yielded; rw[hj]; simp only[W3]; rw[Wv hv]
    by_cases QE:b=want
    ·subst QE;rw[if_pos (by simp[Region.wanted,h1,hy])];simp only[if_true] at hs;split at hs
     ·rename_i v s1 f hv;exact .inl (run hv hs)
     ·cases hs
    ·rw[if_neg (by simp[Region.wanted,h1,hy,QE])];rw[if_neg QE] at hs;exact no hs
   ·rename_i hb;rw[hb] at GA;simp only[jY,iJ,cC] at GA;generalize hv:tm a g=vg at GA;cases GA
    have hy:yielded ops a.tmps j=none:=by
     unfold yielded;rw[hj];simp only[W3];rcases QJ hv with h|h<;>rw[h]
    rw[if_neg (by simp[Region.wanted,h1,hy])];exact no hs
   ·cases hs
  ·cases hgd
def JY (P:Program) (c:dO) (call:Nat->List AV->Heap->Option (AV × Heap)):Prop:=
 ∀ X φ w B base s o a kd v s1 f,cK P o.op (ku kd)=true->eS c call s kd=some (v,s1,f)->SB X φ w B base s (tm a)->Am.dH (gb c) X φ w->kF P X φ w B base s1 v o a
theorem Tv (Cn:JY P c call) {N:Nat} (hN:N<=eY) {ops:Array Oper} {Q:Exit->Act->World->Prop}:∀(l:List Oper) (qs:List O) (k:Nat) (s s':St) (qH:List Fq) (a:Act) (w:World) (φ:cZ),
  (∀j,l[j]?=ops[k+j]?)->rN P N ops l qs=true->mz c call qs s=some (s',qH)->BD X φ w B base s a N->Am.dH (gb c) X φ w->(∀a' w' φ',BD X φ' w' B base s' a' N->eW φ w φ' w'->Q .normal a' w') ->
  wpOps P ops Q (List.range' k l.length) a w
 |[],qs,k,s,s',qH,a,w,φ,_,hc,hs,hr,hg,hQ=>by
   cases qs with
   |nil=>
     simp[mz] at hs;obtain⟨rfl,rfl⟩:=hs;exact hQ a w φ hr (.refl _ _)
   |cons q r=>simp[rN] at hc
 |o::l,qs,k,s,s',qH,a,w,φ,hl,hc,hs,hr,hg,hQ=>by
   cases qs with
   |nil=>simp[rN] at hc
   |cons q r=>
     simp only[rN,ae] at hc;simp only[mz] at hs;split at hs
     case h_2=>cases hs
     rename_i s1 fl1 h1;split at hs
     case h_2=>cases hs
     rename_i s2 fl2 h2;simp at hs;obtain⟨rfl,rfl⟩:=hs;have h0:ops[k]?=some o:=by simpa using (hl 0).symm
     rw[cY,List.range'_succ,wpOps_cons];unfold wpOp;rw[h0]
     have hck:cK P o.op (ku q.kd)=true:=by
      have:=hc.1;simp only[K8,Oz,ae] at this;exact this.2
     refine LR (fun v s1 f hv=>Cn X φ w B base s o a q.kd v s1 f hck hv hr.sb hg) hc.1 hN h1 hr fun a' w' φ' vw k'=>?_;exact Tv Cn hN l r (k+1) s1 s2 fl2 a' w' φ' (fun j=>by have:=hl (j+1); simpa[Nat.add_assoc,Nat.add_comm 1 j] using this) hc.2 h2 vw (hg.nO k') fun a'' W6 pj h'' xX=>hQ a'' W6 pj h'' (k'.trans xX)
theorem Dz {keep:List Nat}:∀{e:Env},sG keep e=false->∀i,mem i keep=false->bL (get e i)=false
 |[],_,i,_=>rfl
 |(j,v)::r,h,i,hi=>by
   simp only[sG,eC] at h;simp only[Am.get];split
   ·rename_i e;subst e;rw[hi] at h;simpa using h.1
   ·exact Dz h.2 i hi
theorem DA (keep:List Nat):∀(env:Env) (i:Nat),get (rF keep env) i=if mem i keep=true then get env i else .any
 |[],i=>by simp[rF,Am.get]
 |(j,u)::r,i=>by
   have ih:=DA keep r i;unfold rF;split
   ·rename_i hm;simp only[Am.get];by_cases e:i=j
    ·subst e; simp[hm]
    ·rw[if_neg e,if_neg e]; exact ih
   ·rename_i hm;rw[ih];simp only[Am.get];by_cases e:i=j
    ·subst e; simp[hm]
    ·rw[if_neg e]
theorem Uv {t:Nat->Value} (h:SB X φ w B base s t) {keep:List Nat} (ho:sG keep s.env=false):SB X φ w B base (Z9 base keep s) t:=by
 obtain⟨N,Ha,h,hb,hl⟩:=h
 have h1:er X φ w N ⟨rF keep s.env,s.H⟩ Ha t:=h.keep (fun i=>by
  rw[DA];cases hm:mem i keep with
  |true=>exact .inl (by simp)
  |false=>exact .inr ⟨by simp,Dz ho i hm⟩) rfl
 refine⟨N,Ha,h1.trim (base0:=base) s.H.length,hb,?_⟩
 have len:∀(n:Nat) (H:Heap),base<=H.length->base<=(trim base (rF keep s.env) n H).length:=by
  intro n
  induction n with
  |zero=>intro H h; exact h
  |succ n ih=>
    intro H h;simp only[trim];split
    ·rename_i hc;exact ih _ (by simp; omega)
    ·exact h
 exact len _ _ hl
theorem ab0 {t:Nat->Value} (h:SB X φ w B base s t) {keep:List Nat} (he:QU base keep s=some s'):∃φ',SB X φ' w B base s' t/\eW φ w φ' w:=by
 unfold QU at he;split at he
 ·split at he
  ·cases he
  rename_i ho;simp at he ho;subst he;obtain⟨oa,h1,a1⟩:=SB.nV keep s.env h;exact⟨oa,Uv h1 ho,a1⟩
 ·rename_i ho;simp at he ho;subst he;exact⟨φ,Uv h ho,.refl _ _⟩
end
end Go.Bm

/- A run of the compact code by value is a run of the dump's code. -/
namespace Go.Bm
open Go.Am
section
variable {P:Program} {c:dO}
def Hw (P:Program) (c:dO) (call:Nat->List AV->Heap->Option (AV × Heap)):Prop:=
 ∀ X φ w B base s s' qH a N id ops os un (Q:Exit->Act->World->Prop),N<=eY->rN P N ops ops.toList os=true->nI un [] [] ops.toList os=true->mz c call os s=some (s',qH)->JC os qH un=true->BD X φ w B base s a N->Am.dH (gb c) X φ w ->
  (∀a' w' φ',BD X φ' w' B base s' a' N->eW φ w φ' w'->Q .normal a' w')->(Code.region id ops true).wp P Q a w
def OT (P:Program) (c:dO) (n:Nat):Prop:=∀(N base:Nat) (code:Code) (cd:C) (s s':St) (e:Ex),N<=eY->H8 P N code cd=true->cG c n base cd s=some (e,s')->∀X φ w B a,BD X φ w B base s a N->Am.dH (gb c) X φ w ->
 ∀ Q:Exit->Act->World->Prop,(∀a' w' φ',BD X φ' w' B base s' a' N->eW φ w φ' w'->Q e.to a' w')->code.wp P Q a w
theorem EL (H1:∀call,gG P c call->JY P c call) (H2:∀call,gG P c call->Hw P c call) (H3:∀n,OT P c n->gG P c (mJ c (cG c n))):∀n,OT P c n
 |0=>fun N base code cd s s' e _ _ h=>by simp[cG] at h
 |n+1=>by
   have ih:=EL H1 H2 H3 n;have dJ:=H3 n ih;intro N base code cd s s' e hN hc h X φ w B a hr hg Q hQ;unfold H8 at hc;split at hc
   case h_1=>simp[cG] at h; obtain⟨rfl,rfl⟩:=h; exact wp_skip (hQ a w φ hr (.refl _ _))
   case h_2=>simp[cG] at h; obtain⟨rfl,rfl⟩:=h; exact wp_ret (hQ a w φ hr (.refl _ _))
   case h_3=>
    simp only[decide_eq_true_eq] at hc;subst hc;simp[cG] at h; obtain⟨rfl,rfl⟩:=h; exact wp_exit (hQ a w φ hr (.refl _ _))
   case h_4=>
    rename_i id ops d os dr un keep;simp only[ae,decide_eq_true_eq] at hc;obtain⟨⟨rfl,dG⟩,ho⟩:=hc;simp only[cG] at h;split at h
    case h_2=>cases h
    rename_i s1 qH hs;split at h
    case isFalse=>cases h
    rename_i hd;split at h
    case h_2=>cases h
    rename_i s2 he;simp at h;obtain⟨rfl,rfl⟩:=h
    have hQ':∀a' w' φ',BD X φ' w' B base s1 a' N->eW φ w φ' w'->Q .normal a' w':=fun a' w' φ' h k=>by
     obtain⟨pj,h2,a2⟩:=ab0 h.sb he;exact hQ a' w' pj ⟨h2,h.defers,h.size⟩ (k.trans a2)
    cases d with
    |false=>
      refine wp_region ?_;rw[List.range_eq_range',<-Array.length_toList];exact Tv (H1 _ dJ) hN ops.toList os 0 s s1 qH a w φ (fun j=>by simp) dG hs hr hg hQ'
    |true=>
      simp at ho;exact H2 _ dJ X φ w B base s s1 qH a N id ops os un Q hN dG ho hs (by simpa using hd) hr hg hQ'
   case h_5=>
    rename_i x y cx cy;simp only[ae] at hc;simp only[cG] at h;refine wp_seq ?_;cases h1:cG c n base cx s with
    |none=>rw[h1] at h; cases h
    |some p=>
      obtain⟨e1,s1⟩:=p;rw[h1] at h;cases e1 with
      |normal=>
        simp only at h;exact ih N base x cx s s1 .normal hN hc.1 h1 X φ w B a hr hg _ fun a' w' φ' vw k=>ih N base y cy s1 s' e hN hc.2 h X φ' w' B a' vw (hg.nO k) Q fun a'' W6 pj Zz xX=>hQ a'' W6 pj Zz (k.trans xX)
      |exit id=>simp at h; obtain⟨rfl,rfl⟩:=h; exact ih N base x cx s s1 _ hN hc.1 h1 X φ w B a hr hg _ fun a' w' φ' vw k=>hQ a' w' φ' vw k
      |ret=>simp at h; obtain⟨rfl,rfl⟩:=h; exact ih N base x cx s s1 _ hN hc.1 h1 X φ w B a hr hg _ fun a' w' φ' vw k=>hQ a' w' φ' vw k
   case h_6=>
    rename_i x ca cb y da db;simp only[ae] at hc;simp only[cG] at h;split at h
    case h_2=>cases h
    rename_i t ht
    have r:a.eval x=.bool t:=by
     obtain⟨N1,Ha,hsim,_⟩:=hr.sb;have ho:=cq (c:=c) (cA:=gb c) hsim rfl hc.1.1;have:=bO (c:=gb c) (env:=Al N1 s.env) (a:=a) (fun i=>by rw[mE]; exact hsim.env i) hg hc.1.1;rw[ho.ev,ht] at this;exact lY this
    refine wp_cond (t:=t) r ?_;cases t with
    |true=>simp at h ⊢; exact ih N base ca da s s' e hN hc.1.2 h X φ w B a hr hg Q hQ
    |false=>simp at h ⊢; exact ih N base cb db s s' e hN hc.2 h X φ w B a hr hg Q hQ
   case h_7=>
    rename_i i b j x;simp only[ae,decide_eq_true_eq] at hc;obtain⟨rfl,hc⟩:=hc;simp only[cG] at h;refine wp_block ?_;cases h1:cG c n base x s with
    |none=>rw[h1] at h; cases h
    |some p=>
      obtain⟨e1,s1⟩:=p;rw[h1] at h;refine ih N base b x s s1 e1 hN hc h1 X φ w B a hr hg _ fun a' w' φ' vw k=>?_;cases e1 with
      |normal=>simp at h; obtain⟨rfl,rfl⟩:=h; exact hQ a' w' φ' vw k
      |ret=>simp at h; obtain⟨rfl,rfl⟩:=h; exact hQ a' w' φ' vw k
      |exit id=>
        simp only at h;split at h
        ·rename_i hid;simp at h; obtain⟨rfl,rfl⟩:=h;simp only[Ex.to,Exit.inBlock,hid,if_true];exact hQ a' w' φ' vw k
        ·rename_i hid;simp at h; obtain⟨rfl,rfl⟩:=h;simp only[Ex.to,Exit.inBlock,hid,if_false];exact hQ a' w' φ' vw k
   case h_8=>
    rename_i b x;simp only[cG] at h
    have key:∀m,m<=n->∀s a w φ,cG c m base (.loop x) s=some (e,s')->BD X φ w B base s a N->Am.dH (gb c) X φ w->(∀a' w' φ',BD X φ' w' B base s' a' N->eW φ w φ' w'->Q e.to a' w')->LW P b Q a w:=by
     intro m
     induction m with
     |zero=>intro _ s a w φ h; simp[cG] at h
     |succ m ihm=>
       intro hm s a w φ h hr hg hQ;simp only[cG] at h;refine LW.step ?_;have Wj:OT P c m:=EL H1 H2 H3 m;cases h1:cG c m base x s with
       |none=>rw[h1] at h; cases h
       |some p=>
         obtain⟨e1,s1⟩:=p;rw[h1] at h;refine Wj N base b x s s1 e1 hN hc h1 X φ w B a hr hg _ fun a' w' φ' vw k=>?_;cases e1 with
         |normal=>simp only at h; exact ihm (by omega) s1 a' w' φ' h vw (hg.nO k) fun a'' W6 pj Zz xX=>hQ a'' W6 pj Zz (k.trans xX)
         |exit id=>simp at h; obtain⟨rfl,rfl⟩:=h; exact hQ a' w' φ' vw k
         |ret=>simp at h; obtain⟨rfl,rfl⟩:=h; exact hQ a' w' φ' vw k
    refine LW.loop (LW.step ?_);cases h1:cG c n base x s with
    |none=>rw[h1] at h; cases h
    |some p=>
      obtain⟨e1,s1⟩:=p;rw[h1] at h;refine ih N base b x s s1 e1 hN hc h1 X φ w B a hr hg _ fun a' w' φ' vw k=>?_;cases e1 with
      |normal=>simp only at h; exact key n (aI _) s1 a' w' φ' h vw (hg.nO k) fun a'' W6 pj Zz xX=>hQ a'' W6 pj Zz (k.trans xX)
      |exit id=>simp at h; obtain⟨rfl,rfl⟩:=h; exact hQ a' w' φ' vw k
      |ret=>simp at h; obtain⟨rfl,rfl⟩:=h; exact hQ a' w' φ' vw k
   case h_9=>simp[cG] at h; obtain⟨rfl,rfl⟩:=h; exact wp_label (hQ a w φ hr (.refl _ _))
   case h_10=>
    rename_i b x;simp only[cG] at h;cases n with
    |zero=>simp[cG] at h
    |succ n'=>
      rw[show cG c (n'+1) base .skip s=some (.normal,s) from rfl] at h;simp only at h;refine wp_scope_straight (ih N base b x s s' e hN hc h X φ w B a hr hg _ fun a' w' φ' vw k=>?_);have hq:=hQ a' w' φ' vw k;cases e<;>exact hq
   case h_11=>cases hc
end
end Go.Bm

/- What a function returns. -/
namespace Go.Bm
open Go.Am
section
variable {P:Program} {X:Nat->Prop} {φ oa φ':cZ} {w w1 w':World} {N N1 N':Names} {s s' s1:St} {Ha:Heap} {B:Nat->Nat} {base:Nat} {v va:AV} {v':Value} {c:dO} {a:Act} {call:Nat->List AV->Heap->Option (AV × Heap)}
theorem aeg (h:er X φ w N s Ha (tm a)) (hg:Am.dH (gb c) X φ w) {rv:Rv} {x:AV} (hx:VN c s rv=some x):∃xa,XG Ha (Al N s.env) rv=some xa/\Le (cC N x) xa/\cB (au s) s.H.length x/\bL x=false:=by
 cases rv with
 |t i=>
   simp only[VN,af] at hx;subst hx;refine⟨_,rfl,?_,TA h i,Nh _ _⟩;rw[mE,<-RD];exact Le.refl _
 |c i ag=>
   simp only[VN] at hx;split at hx
   case h_2=>cases hx
   rename_i u ps hp;simp at hx;subst hx;obtain⟨va,fl,e,hle,h2,h3⟩:=adM (a:=a) h hg (x:=.t i) (o':=.tmp i) (by simp[kN,cM]) hp
   have gV:bL u=false:=by
    have rd:∀{cs:List AV},Kg ag cs=some u->bL u=false:=by
     intro cs hu;unfold Kg at hu;split at hu
     case h_2=>cases hu
     split at hu
     ·cases hu
     rename_i gV;simp at hu gV;subst hu;exact gV
    unfold zw at hp;split at hp
    ·split at hp
     ·rename_i hu; simp at hp; obtain⟨rfl,_⟩:=hp; exact rd hu
     ·cases hp
    ·split at hp
     ·split at hp
      ·rename_i hu; simp at hp; obtain⟨rfl,_⟩:=hp; exact rd hu
      ·cases hp
     ·cases hp
    ·split at hp
     ·split at hp
      ·split at hp
       ·split at hp
        ·rename_i hu; simp at hp; obtain⟨rfl,_⟩:=hp; exact rd hu
        ·cases hp
       ·cases hp
      ·cases hp
     ·cases hp
    ·cases hp
   rw[kI N gV] at hle;refine⟨va,?_,hle,h2,gV⟩;simp only[ku,kN,fu,Am.ev] at e;simp only[XG];split at e
   ·rename_i cs dG;rw[dG];split at e
    ·rename_i u' KJ; simp at e; obtain⟨rfl,_⟩:=e; exact KJ
    ·cases e
   ·rename_i b off dG;rw[dG];split at e
    ·rename_i cs hb;simp only[hb];split at e
     ·rename_i u' KJ; simp at e; obtain⟨rfl,_⟩:=e; exact KJ
     ·cases e
    ·cases e
   ·cases e
theorem RO (h:er X φ w N s Ha (tm a)) (hg:Am.dH (gb c) X φ w):∀{rvs:List Rv} {xs:List AV},qM c s rvs=some xs->∃VH,L5 Ha (Al N s.env) rvs=some VH/\VH.length=xs.length/\(∀(i:Nat) (x y:AV),xs[i]?=some x->VH[i]?=some y->Le (cC N x) y)/\jZ (au s) s.H.length xs/\∀ x∈xs,bL x=false
 |[],xs,hx=>by simp[qM] at hx; subst hx; exact⟨[],rfl,rfl,fun i x y h=>by simp at h,trivial,fun x hx=>by simp at hx⟩
 |r::rs,xs,hx=>by
   simp only[qM] at hx;split at hx
   case h_2=>cases hx
   rename_i u us h1 h2;simp at hx;subst hx;obtain⟨xa,a1,a2,a3,a4⟩:=aeg h hg h1;obtain⟨VH,b1,b2,b3,b4,b5⟩:=RO h hg h2;refine⟨xa::VH,by simp only[L5,a1,b1],by simp[b2],fun i x y hx hy=>?_,⟨a3,b4⟩,fun x hx=>?_⟩
   ·cases i with
    |zero=>simp at hx hy; subst hx hy; exact a2
    |succ i=>simp at hx hy; exact b3 i x y hx hy
   ·rcases aO.1 hx with e|e
    ·subst e; exact a4
    ·exact b5 x e
theorem Xk (h:er X φ w N s Ha (tm a)) (hg:Am.dH (gb c) X φ w) {rvs:List Rv} {xs:List AV} (hx:qM c s rvs=some xs):∃VH,L5 Ha (Al N s.env) rvs=some VH/\Le (cC N (ob xs)) (ob VH)/\cB (au s) s.H.length (ob xs)/\bL (ob xs)=false:=by
 obtain⟨VH,b1,b2,b3,b4,b5⟩:=RO h hg hx;refine⟨VH,b1,?_⟩
 match xs,VH,b2 with
 |[],[],_=>exact⟨Le.refl _,trivial,rfl⟩
 |[x],[y],_=>exact⟨b3 0 x y rfl rfl,b4.1,b5 x (by simp)⟩
 |x::x2::xs,y::y2::ys,hl=>
   refine⟨fun R φ v r=>?_,b4,rfl⟩;simp only[ob,cC] at r ⊢;cases r with
   |dF _ _ vs HG hh=>exact .dF _ _ _ (by rw[dB,<-hl]; exact HG) (fun i d u hd hu=>by
     rw[lT] at hd;cases hc:(x::x2::xs)[i]? with
     |none=>rw[hc] at hd; cases hd
     |some z=>
       rw[hc] at hd;simp at hd;subst hd;obtain⟨y',Gy⟩:=aZ (l:=y::y2::ys) (i:=i) (by have:=ak hc; omega);exact b3 i z y' hc Gy _ _ _ (hh i y' u Gy hu))
theorem SB.val (h:SB X φ w B base s (tm a)) {r:AV} (hp:pl r=true) {v':Value} (hr:bF (Rd X [] w) [] r v') (B':Nat->Nat):∃φ',SB X φ' w B' 0 ⟨[(0,r)],[]⟩ (fun i=>if i=0 then v' else undef)/\eW φ w φ' w:=by
 obtain⟨N,Ha,h,hb⟩:=h
 have gV:∀g,¬bX (aT φ.length none) g:=fun g ⟨b,sz,e⟩=>by
  rw[fY] at e;split at e<;>simp at e
 refine⟨aT φ.length none,?_,⟨rfl,rfl,rfl,aI _,aI _,fun g hg ho=>⟨rfl,gV g⟩,⟨by simp,fun b p hb e=>by rw[fY] at e; split at e<;>simp at e⟩⟩⟩;have BF:∀i,get [(0,r)] i=if i=0 then r else .any:=fun i=>by simp only[Am.get]
 have mX:∀i,pl (get [(0,r)] i)=true:=fun i=>by rw[BF]; split; exact hp; rfl
 have hnoo:∀p,au ⟨[(0,r)],[]⟩ p=none:=by
  intro p;cases p with
  |s i=>exact (dM (s:=⟨[(0,r)],[]⟩) (tY (mX i))).1
  |sc i j=>exact (dM (s:=⟨[(0,r)],[]⟩) (tY (mX i))).2 j
  |c b j=>unfold au; simp[at_,aJ]
 refine⟨⟨fun _=>0,fun _=>none⟩,aT φ.length none,⟨fun i=>?_,fun i=>vv _ (mX i),⟨by simp,h.heap.HK,fun b cs hb=>?_,fun b hb=>?_,fun b b' g sz pe h1=>?_⟩,fun p k xs e=>?_,fun b cs e=>?_,fun p q n e1=>?_,fun b p e1=>?_,fun b d e1=>?_⟩,fun b hb=>by omega,Lt _⟩
 ·have hr2:bF (Rd X (aT φ.length none) w) (aT φ.length none) r v':=(hr.mono (R':=Rd X (aT φ.length none) w) (fun a u h=>⟨h.1,gV _,h.2.2⟩) (.refl _)).Jb _;show bF _ _ (jY _ i (get [(0,r)] i)) (if i=0 then v' else undef);rw[ze _ _ (mX i),BF];by_cases e:i=0
  ·rw[if_pos e,if_pos e]; exact hr2
  ·rw[if_neg e,if_neg e]; exact .any _ _
 ·rw[fY] at hb; split at hb<;>simp at hb
 ·have:=ak hb;rw[fY];simp at this;rw[if_pos this]
 ·rw[fY] at h1; split at h1<;>simp at h1
 ·rw[hnoo] at e; cases e
 ·simp[aJ] at e
 ·rw[hnoo] at e1; cases e1
 ·simp[aJ] at e1
 ·simp[aJ] at e1
end
end Go.Bm

/- The end of a function that sees no boxes of others. -/
namespace Go.Bm
open Go.Am
section
variable {P:Program} {X:Nat->Prop} {φ oa φ':cZ} {w w1 w':World} {N N1 N':Names} {s s' s1:St} {Ha:Heap} {B:Nat->Nat} {base:Nat} {v va:AV} {v':Value} {c:dO} {a:Act} {call:Nat->List AV->Heap->Option (AV × Heap)}
theorem SB.own1 (h:er X φ w N s Ha (tm a)) {p:Rt} {k len:Nat} {xs:List AV} (hp:au s p=some (k,xs)) (hle:len<=xs.length) (hr:bF (Rd X φ w) φ (cC N (.dz k p 0 len)) v') (B':Nat->Nat):SB X φ w B' 0 ⟨[(0,.own k (xs.take len))],[]⟩ (fun i=>if i=0 then v' else undef):=by
 have BF:∀i,get [(0,AV.own k (xs.take len))] i=if i=0 then .own k (xs.take len) else .any:=fun i=>by simp only[Am.get]
 have hlen:(xs.take len).length=len:=by simp; omega
 have eM:∀q k' ys,au ⟨[(0,.own k (xs.take len))],[]⟩ q=some (k',ys)->q=.s 0/\k'=k/\ys=xs.take len:=by
  intro q k' ys e;have e':=bY.1 e;cases q with
  |s i=>
    simp only[at_,BF,af] at e';by_cases hi:i=0
    ·subst hi; simp at e'; exact⟨rfl,e'.1.symm,e'.2.symm⟩
    ·rw[if_neg hi] at e'; cases e'
  |sc i j=>
    simp only[at_,BF] at e';by_cases hi:i=0
    ·subst hi; simp at e'
    ·rw[if_neg hi] at e'; cases e'
  |c b j=>simp[at_,aJ] at e'
 have one:∀{q},(au ⟨[(0,.own k (xs.take len))],[]⟩ q).isSome->q=.s 0:=by
  intro q hq;obtain⟨⟨k',ys⟩,e⟩:=aR.1 hq;exact (eM q k' ys e).1
 refine⟨⟨N.β,fun q=>N.ν p⟩,Ha,⟨fun i=>?_,fun i=>?_,h.heap,fun q k' ys e=>?_,fun b cs e=>?_,fun q r n e1 e2 _ _=>?_,fun b q e1=>?_,fun b d e1=>?_⟩,fun b hb=>by omega,Lt _⟩
 ·show bF _ _ (jY _ i (get [(0,AV.own k (xs.take len))] i)) (if i=0 then v' else undef);rw[BF];by_cases e:i=0
  ·rw[if_pos e,if_pos e];simp only[jY,iJ,rA,hlen];simp only[cC,s8] at hr;exact hr
  ·rw[if_neg e,if_neg e]; exact .any _ _
 ·show cB _ _ (get [(0,AV.own k (xs.take len))] i);rw[BF];split<;>trivial
 ·obtain⟨rfl,rfl,rfl⟩:=eM q k' ys e;exact (h.own p k' xs hp).take
 ·simp[aJ] at e
 ·rw[one e1,one e2]
 ·simp[aJ] at e1
 ·simp[aJ] at e1
theorem abU (h:er X φ w N s Ha (tm a)) (hb:(∀b,b<base->N.β b=B b)/\base<=s.H.length) (hv:bF (Rd X φ w) φ (cC N v) v') (hk:cB (au s) s.H.length v) (gV:bL v=false) {md:Md} {r:AV} {H':Heap} (iO:md.sh=false) (hf:bR md base s v=some (r,H')) (B':Nat->Nat) :
  H'=[]/\∃ φ',SB X φ' w B' 0 ⟨[(0,r)],[]⟩ (fun i=>if i=0 then v' else undef)/\eW φ w φ' w:=by
 have Cl:∀a u,Rd X φ w a u->Rd X [] w a u:=fun a u ⟨h1,_,h3⟩=>⟨h1,bX.nil _,h3⟩;unfold bR at hf;rw[iO] at hf;simp only[bp,if_false] at hf;split at hf
 ·split at hf
  case isFalse=>cases hf
  split at hf
  case h_2=>cases hf
  rename_i r' hr;simp at hf;obtain⟨rfl,rfl⟩:=hf;refine⟨rfl,?_⟩;unfold Xq Xp at hr;split at hr
  ·rename_i k p len;split at hr
   case h_2=>cases hr
   rename_i k' xs hp;split at hr
   case isFalse=>cases hr
   rename_i hc;obtain⟨rfl,hle⟩:=hc;simp at hr;subst hr;exact⟨φ,SB.own1 h hp hle hv B',.refl _ _⟩
  ·simp[bL] at gV
  ·rename_i h1 h2;split at hr
   case isFalse=>cases hr
   rename_i mX;simp at hr;subst hr;rw[kg N _ mX] at hv;exact SB.val (base:=base) (B:=B) ⟨N,Ha,h,hb⟩ mX ((hv.dC (fT _ mX) []).mono Cl (.refl _)) B'
 ·split at hf
  case h_2=>cases hf
  rename_i r' hr;simp at hf;obtain⟨rfl,rfl⟩:=hf;obtain⟨p1,p2⟩:=Oj h v r' hr hk;exact⟨rfl,SB.val (base:=base) (B:=B) ⟨N,Ha,h,hb⟩ p1 (p2 _ hv) B'⟩
def uA (P:Program) (c:dO):Prop:=∀f g md q,c.orc f=some g->c.fn f=some (md,q)->∀args H r H',(md.sh=true\/H=[])->g args H=some (r,H')->(md.sh=true->iu H'=true)->∀X φ w B (vargs:Array Value),args.length=vargs.size->SB X φ w B H.length ⟨dN 0 args,H⟩ (fun i=>vargs.getD i undef)->Am.dH (gb c) X φ w->Calls P f vargs w (Hv X φ w B H.length r H')
def ShOK (P:Program) (c:dO) (n:Nat):Prop:=∀f md q,c.fn f=some (md,q)->md.sh=true->∀args H r H',mJ c (cG c n) f args H=some (r,H')->iu H'=true->∀X φ w B (vargs:Array Value),args.length=vargs.size->SB X φ w B H.length ⟨dN 0 args,H⟩ (fun i=>vargs.getD i undef)->Am.dH (gb c) X φ w->Calls P f vargs w (Hv X φ w B H.length r H')
theorem JQ (cX:eR P c) (uf:uA P c) {n:Nat} (hs:OT P c n) (iO:ShOK P c n):gG P c (mJ c (cG c n)):=by
 intro f md q hf args H r H' hH h j9 X φ w B vargs hl HE hg;by_cases hm:md.sh=true
 ·exact iO f md q hf hm args H r H' h (j9 hm) X φ w B vargs hl HE hg
 have Qy:md.sh=false:=by simpa using hm
 have hH':H=[]:=hH.elim (fun e=>absurd e hm) id;subst hH';unfold mJ at h;split at h
 ·rename_i x DX;unfold HP at DX;split at DX
  case h_2=>cases DX
  rename_i g LB;rw[h] at DX;replace h:=DX;exact uf f g md q LB hf args [] r H' (.inr rfl) h j9 X φ w B vargs hl HE hg
 ·rw[hf] at h;simp only at h;split at h
  case isFalse=>cases h
  rename_i hle;obtain⟨fn,h1,h2⟩:=cX.fn f md q hf;simp only[cV,ae,decide_eq_true_eq] at h2;obtain⟨⟨⟨⟨hn,aho⟩,_⟩,hres⟩,tD⟩:=h2;split at tD
  case h_2=>cases tD
  rename_i code hb;have Bb:(vargs++q6 (fn.ntmps-vargs.size) undef).size=q.n:=by simp; omega
  have htm:tm { tmps:=vargs++q6 (fn.ntmps-vargs.size) undef,defers:=[] }=fun i=>vargs.getD i undef:=by
   funext i;simp only[tm,bh];by_cases hi:i<vargs.size
   ·rw[sP hi]
   ·rw[Hz (by omega),kP];rw[LK (by omega)];split<;>rfl
  have hS:BD X φ w B 0 ⟨dN 0 args,[]⟩ { tmps:=vargs++q6 (fn.ntmps-vargs.size) undef,defers:=[] } q.n:=⟨by rw[htm]; exact HE,rfl,Bb⟩
  have fin:∀{e:Ex} {s:St} {vs:List AV},cG c n 0 q.body ⟨dN 0 args,[]⟩=some (e,s)->(e=.ret\/e=.normal)->qM c s q.res=some vs->bR md 0 s (ob vs)=some (r,H')->Calls P f vargs w (Hv X φ w B 0 r H'):=by
   intro e s vs he hre LA QC;refine calls_of_wp h1 hb (hs q.n 0 code q.body _ s e (by omega) tD he X φ w B _ hS hg _ fun a' w' φ' hS' uh=>?_);obtain⟨N,Ha,xK,hbB⟩:=hS'.sb;obtain⟨VH,x1,x2,x3,x4⟩:=Xk xK (hg.nO uh) LA;obtain⟨v,k1,k2⟩:=CM (P:=P) (s:=⟨Al N s.env,Ha⟩) (ts:=a'.tmps) (fun i=>by rw[mE]; exact xK.env i) xK.heap hres x1;obtain⟨rfl,kQ,s2,a2⟩:=abU xK hbB (x2 _ _ _ k2) x3 x4 Qy QC B;have:bodyPost P fn (Hv X φ w B 0 r []) .ret a' w':=⟨hS'.defers,v,k1,v,kQ,rfl,s2,uh.trans a2⟩;rcases hre with rfl|rfl
   ·exact this
   ·exact this
  split at h
  ·rename_i s he;split at h
   ·rename_i vs LA;exact fin he (.inl rfl) LA h
   ·cases h
  ·rename_i s he;split at h
   ·rename_i vs LA;exact fin he (.inr rfl) LA h
   ·cases h
  ·cases h
end
end Go.Bm

/- Every operation, given the calls that share boxes. -/
namespace Go.Bm
open Go.Am
section
variable {P:Program} {c:dO} {call:Nat->List AV->Heap->Option (AV × Heap)}
def Hu (P:Program) (c:dO) (call:Nat->List AV->Heap->Option (AV × Heap)):Prop:=
 ∀ X φ w B base s (o:Oper) (a:Act) kd f args md q r H',cK P o.op (ku kd)=true->SB X φ w B base s (tm a)->Am.dH (gb c) X φ w->getArgs c s.env kd=some (f,args)->c.fn f=some (md,q)->md.sh=true->fI (args.map gq)=true->iu s.H=true->aK r=[]->bL r=false->iu H'=true->call f (args.map gq) s.H=some (r,H')->kF P X φ w B base ⟨jS lV s.env,H'⟩ r o a
theorem V0 (cX:eR P c) (dJ:gG P c call) (iO:Hu P c call) {X:Nat->Prop} {φ:cZ} {w:World} {B:Nat->Nat} {base:Nat} {s s1:St} {o:Oper} {a:Act} {kd:Kd} {v:AV} {fq:Fq} (hk:cK P o.op (ku kd)=true) (h:SB X φ w B base s (tm a)) (hg:Am.dH (gb c) X φ w) (hs:dP c call kd s=some (v,s1,fq)):kF P X φ w B base s1 v o a:=by
 unfold dP at hs;split at hs
 ·cases hs
 rename_i f args ha;split at hs
 ·cases hs
 rename_i md q hf;split at hs
 ·rename_i hmd;simp only[ae,bt] at hmd;split at hs
  ·cases hs
  rename_i sM hz;split at hs
  case h_2=>cases hs
  rename_i r H' hc;split at hs
  case isFalse=>cases hs
  rename_i hr;simp only[af,aB] at hs;obtain⟨rfl,rfl,_⟩:=hs;exact P8 cX dJ h hg hk ha hf hmd.2 hz hc hr
 ·obtain⟨oa,h1,a1⟩:=SB.dK (cW args) h;refine kF.ghost a1 ?_;split at hs
  ·cases hs
  rename_i f1 o8 Od;split at hs
  case isFalse=>cases hs
  rename_i ZK;subst ZK;split at hs
  ·rename_i hm;split at hs
   case isFalse=>cases hs
   rename_i hp;split at hs
   case h_2=>cases hs
   rename_i r H' hc;split at hs
   case isFalse=>cases hs
   rename_i hr;simp only[af,aB] at hs;obtain⟨rfl,rfl,_⟩:=hs;simp only[ae,bt] at hp hr;exact iO X oa w B base _ o a kd f1 o8 md q r H' hk h1 (hg.nO a1) Od hf hm hp.1 hp.2 (fa.1 hr.1.1) hr.1.2 hr.2 hc
  ·rename_i hm;split at hs
   case isFalse=>cases hs
   rename_i hp;split at hs
   case h_2=>cases hs
   rename_i r H' hc;split at hs
   case isFalse=>cases hs
   rename_i hr;simp only[af,aB] at hs;obtain⟨rfl,rfl,_⟩:=hs;exact P7 cX dJ h1 (hg.nO a1) hk Od hf (by simpa using hm) hp hc hr
def Lr (w:World) (og:Option Nat) (k:Nat) (ys:List AV) (e:Ending) (w':World):Prop:=
 ∃ (g' H9:Nat) (arr':Array Value) (e':TypeId),e=.returned (.slice (some ⟨g',0,none⟩) ys.length H9)/\ys.length<=H9/\H9*k<=arr'.size/\w'.heap[g']?=some (.cells arr' e' (0,0)) /\
  (∀(i:Nat) (d:AV),(aA ys)[i]?=some d->∃u,arr'[i]?=some u/\bF (fun _ _=>False) [] d u)/\(og=some g'\/w.heap.size<=g') /\
  (∀h,h<w.heap.size->og≠some h->w'.heap[h]?=w.heap[h]?)/\w'.os=w.os/\w'.tape=w.tape/\w'.output=w.output/\w.drawn<=w'.drawn/\w.heap.size<=w'.heap.size
abbrev acJ (T:Nat->Nat->Addr->Value->Prop) (w:World) (og:Option Nat) (k:Nat) (ys:List AV) (e:Ending) (w':World):Prop:=
 ∃ (g' H9:Nat) (arr':Array Value) (e':TypeId) (a':Addr),e=.returned (.slice (some a') ys.length H9)/\(0<H9->a'=⟨g',0,none⟩)/\ys.length<=H9/\H9*k<=arr'.size/\w'.heap[g']?=some (.cells arr' e' (0,0)) /\
  (∀(i:Nat) (d:AV),(aA ys)[i]?=some d->∃u,arr'[i]?=some u/\bF (T g' (arr'.size+1)) [] d u)/\(og=some g'\/w.heap.size<=g') /\
  (∀h,h<w.heap.size->og≠some h->w'.heap[h]?=w.heap[h]?)/\w'.os=w.os/\w'.tape=w.tape/\w'.output=w.output/\w.drawn<=w'.drawn/\w.heap.size<=w'.heap.size
def OV (w:World) (og:Option Nat) (k:Nat) (ys:List AV) (e:Ending) (w':World):Prop:=
 acJ (fun _ _ _ _=>False) w og k ys e w' \/
 (og=none/\ys=[]/\e=.returned (.slice none 0 0)/\eW [] w [] w')
theorem Lr.n {w:World} {og:Option Nat} {k:Nat} {ys:List AV} {e:Ending} {w':World} (h:Lr w og k ys e w'):OV w og k ys e w':=by
 obtain⟨g',H9,arr',e',h1,h2⟩:=h;exact .inl ⟨g',H9,arr',e',_,h1,fun _=>rfl,h2⟩
def Rw (w:World) (og:Option Nat) (a:Addr) (u:Value):Prop:=og≠some a.block/\w.cell? a=some u/\∃ arr te,w.heap[a.block]?=some (.cells arr te (0,0))
def UU (w:World) (og:Option Nat) (a:Addr) (u:Value):Prop:=og≠some a.block/\w.cell? a=some u
def BesE:AV->World->Option Nat->Addr->Value->Prop
 |.func _ _ _=>UU
 |_=>Rw
def Ro (P:Program) (f:Nat) (g:Nat->List AV->List AV->Option (List AV)) (Q:World->Option Nat->Nat->List AV->Ending->World->Prop):Prop:=∀k xs es ys,g k xs es=some ys->(∀x∈xs,x.cells.length=k)->(∀x∈xs,∀d∈x.cells,fz d=true) ->
 ((∀y∈ys,y.cells.length=k)/\∀ y∈ys,∀d∈y.cells,fz d=true) /\
 (xs=[]->∀w (vargs:Array Value),es.length+1=vargs.size->vargs[0]?=some (.slice none 0 0)->(∀(i:Nat) (e:AV) (v:Value),es[i]?=some e->vargs[i+1]?=some v->bF (BesE e w none) [] e v)->Calls P f vargs w (Q w none k ys)) /\
 ∀ w (vargs:Array Value) g0 arr te a cap,w.heap[g0]?=some (.cells arr te (0,0))->(∀(i:Nat) (d:AV),(aA xs)[i]?=some d->∃u,arr[i]?=some u/\bF (fun _ _=>False) [] d u)->es.length+1=vargs.size->vargs[0]?=some (.slice (some a) xs.length cap)->(0<cap->a=⟨g0,0,none⟩)->xs.length<=cap->cap*k<=arr.size ->
  (∀(i:Nat) (e:AV) (v:Value),es[i]?=some e->vargs[i+1]?=some v->bF (BesE e w (some g0)) [] e v)->Calls P f vargs w (Q w (some g0) k ys)
theorem Ro.weak {P:Program} {f:Nat} {g:Nat->List AV->List AV->Option (List AV)} (h:Ro P f g Lr):Ro P f g OV:=by
 intro k xs es ys hg h1 h2;obtain⟨p,q,r⟩:=h k xs es ys hg h1 h2;exact⟨p,fun a b c d e f=>(q a b c d e f).mono fun _ _ z=>z.n,fun a b c d e f g h i j k l m n o=>(r a b c d e f g h i j k l m n o).mono fun _ _ z=>z.n⟩
def JZ (P:Program) (c:dO):Prop:=True
def aaD (P:Program) (c:dO):Prop:=∀f g,c.inp f=some g->(∃md q,c.fn f=some (md,q))/\∀ k xs es ys res,g k xs es=some (ys,res)->(∀x∈xs,x.cells.length=k)->(∀x∈xs,∀d∈x.cells,fz d=true) ->
 ((ys.length=xs.length/\(∀y∈ys,y.cells.length=k))/\((∀y∈ys,∀d∈y.cells,fz d=true)/\∀ m,res=some m->m<=xs.length)) /\
 (xs=[]->∀X φ w (vargs:Array Value) v0 y,(y=.dp\/y=.list k [])->es.length+1=vargs.size->vargs[0]?=some v0->bF (Rd X φ w) φ y v0->(∀(i:Nat) (e:AV) (v:Value),es[i]?=some e->vargs[i+1]?=some v->bF (Rd X φ w) [] e v) ->
  Calls P f vargs w (fun e w'=>∃v',e=.returned v'/\bF (Rd X φ w') φ (match res with
   |none=>.dF []
   |some _=>y) v'/\eW [] w [] w')) /\
 ∀ X φ w Ha n rest (vargs:Array Value) v0,bV X φ w Ha->aJ Ha n=some (aA (xs++rest))->es.length+1=vargs.size->vargs[0]?=some v0->bF (Rd X φ w) φ (.sl k n 0 xs.length) v0->(∀(i:Nat) (e:AV) (v:Value),es[i]?=some e->vargs[i+1]?=some v->bF (Rd X φ w) [] e v) ->
  Calls P f vargs w (fun e w'=>∃v' φ',e=.returned v'/\bF (Rd X φ' w') φ' (match res with
   |none=>.dF []
   |some m=>.sl k n 0 m) v'/\bV X φ' w' (Ha.set n (some (aA (ys++rest))))/\eW φ w φ' w')
def tM (P:Program) (c:dO):Prop:=aaD P c/\JZ P c
theorem JZ.none {P:Program} {c:dO} (h:∀f,c.eat f=none):JZ P c:=trivial
theorem tM.none {P:Program} {c:dO} (h:∀f,c.inp f=none) (h2:∀f,c.eat f=none:=by intro _; rfl):tM P c:=⟨(fun f g hf=>by rw[h f] at hf; cases hf),JZ.none h2⟩
theorem PM {s:St} {p:Rt} {v:AV} (h:at_ s p=some v):(∀i,get (setAt s p v).env i=get s.env i)/\(setAt s p v).H=s.H:=by
 cases p with
 |s i=>
   simp only[at_,af] at h;refine⟨fun j=>?_,rfl⟩;simp only[setAt,bD];split
   ·rename_i e; subst e; exact h.symm
   ·rfl
 |sc i l=>
   simp only[at_] at h;split at h
   ·rename_i cs hc
    have e:cs.set l v=cs:=by
     apply dy;intro j;rw[aX];split
     ·rename_i e; subst e; split
      ·exact h.symm
      ·rename_i bQ; rw[dW (by omega)] at h; cases h
     ·rfl
    have hs:setAt s (.sc i l) v=⟨put s.env i (.agg cs),s.H⟩:=by simp only[setAt,hc,e]
    rw[hs];refine⟨fun j=>?_,rfl⟩;show get (put s.env i (.agg cs)) j=_;rw[bD];split
    ·rename_i e2; subst e2; exact hc.symm
    ·rfl
   ·cases h
 |c b l=>
   simp only[at_] at h;split at h
   ·rename_i cs hc
    have e:cs.set l v=cs:=by
     apply dy;intro j;rw[aX];split
     ·rename_i e; subst e; split
      ·exact h.symm
      ·rename_i bQ; rw[dW (by omega)] at h; cases h
     ·rfl
    have hs:setAt s (.c b l) v=⟨s.env,s.H.set b (some cs)⟩:=by simp only[setAt,hc,e]
    rw[hs];refine⟨fun j=>rfl,?_⟩;show s.H.set b (some cs)=s.H;apply dy;intro j;rw[aX];split
    ·rename_i e2;subst e2;rw[if_pos (dx hc),blk_iff.1 hc]
    ·rfl
   ·cases h
theorem ga (xs ys:List AV):aA (xs++ys)=aA xs++aA ys:=by
 induction xs with
 |nil=>rfl
 |cons x r ih=>simp[aA,ih,du]
theorem yW {xs:List AV} {d:AV} (h:d∈aA xs):∃x∈xs,d∈x.cells:=by
 induction xs with
 |nil=>simp[aA] at h
 |cons x r ih=>
   simp only[aA,aD] at h;rcases h with h|h
   ·exact⟨x,by simp,h⟩
   ·obtain⟨y,hy,hd⟩:=ih h;exact⟨y,by simp[hy],hd⟩
theorem Rw.weak {w:World} {og:Option Nat} {a:Addr} {u:Value} (h:Rw w og a u):UU w og a u:=⟨h.1,h.2.1⟩
theorem er.OP {X:Nat->Prop} {φ oa:cZ} {w w1:World} {N:Names} {s:St} {Ha Ha':Heap} {t:Nat->Value} (h:er X φ w N s Ha t) {p:Rt} {kp:Nat} {xs:List AV} (hp:au s p=some (kp,xs)) (ad:eW φ w oa w1) (hh:bV X oa w1 Ha') {n:Nat} (hn:N.ν p=some n\/φ.length<=n) (j9:∀m,m≠n->m<Ha.length->aJ Ha' m=aJ Ha m):er X oa w1 N (setAt (cm (sw p) s) p .any) Ha' t:=by
 have hpo:(au s p).isSome:=by rw[hp]; rfl
 obtain⟨d1,d2,d3⟩:=h.drop hp;have hlen:=h.heap.len;refine d1.nO ad hh (fun q k' zs e=>?_) (fun b Dx=>?_)
 ·have e':=e;rw[d2] at e';split at e'
  ·cases e'
  rename_i oU;refine (d1.own q k' zs e).same fun m hmq=>?_;have hml:=h.gU (by rw[e']; rfl) hmq;refine j9 m ?_ hml;rintro rfl;rcases hn with hn|hn
  ·exact oU (h.inj q p m (by rw[e']; rfl) hpo hmq hn)
  ·omega
 ·have KR:(aJ s.H b).isSome:=by
   cases e:aJ s.H b with
   |none=>rw[d3.DR b e] at Dx; cases Dx
   |some _=>rfl
  have hml:=h.sY KR;refine j9 _ ?_ hml;intro e;rcases hn with hn|hn
  ·exact h.bx b p KR hpo (by rw[hn,e])
  ·omega
theorem ae4 (cX:eR P c) (heat:JZ P c) {X:Nat->Prop} {φ:cZ} {w:World} {B:Nat->Nat} {base:Nat} {s s1:St} {o:Oper} {a:Act} {f:Nat} {x:E} {es:List E} {v:AV} {fq:Fq} (hk:cK P o.op (ku (.call f (x::es)))=true) (h:SB X φ w B base s (tm a)) (hg:Am.dH (gb c) X φ w) {g:Nat->List AV->List AV->Option (List AV)} (LB:c.eat f=some g) (hs:QV s g (aY c s.env x) (dv c s.env es)=some (v,s1,fq)):kF P X φ w B base s1 v o a:=by unfold QV at hs;cases hs
mutual
theorem Kj:∀x,pl x=true->aK x=[]
 |.dz _ _ _ _,h=>by simp[pl] at h
 |.eV _ _ _ _,h=>by simp[pl] at h
 |.agg cs,h=>by simp only[pl] at h; simp only[aK]; exact xO cs h
 |.dF cs,h=>by simp only[pl] at h; simp only[aK]; exact xO cs h
 |.func _ a b,h=>by simp only[pl,ae] at h; simp only[aK,xO a h.2.1,xO b h.2.2,ir]
 |.any,_=>rfl|.undef,_=>rfl|.fo,_=>rfl|.fv,_=>rfl|.dp,_=>rfl
 |.int _ _,_=>rfl|.bool _,_=>rfl|.str _,_=>rfl|.list _ _,_=>rfl|.dh _,_=>rfl|.ptr _ _,_=>rfl|.sl _ _ _ _,_=>rfl|.own _ _,_=>rfl
theorem xO:∀xs,eE xs=true->cW xs=[]
 |[],_=>rfl
 |x::r,h=>by simp only[eE,ae] at h; simp only[cW,Kj x h.1,xO r h.2,ir]
end
theorem Y7 {s s1:St} {f:Nat} {x:AV} {es:List AV} {v:AV} {fl:Fq} (h:Wd c call s f es x=some (v,s1,fl)):∃b md q cs cs',x=.ptr b 0/\c.fn f=some (md,q)/\aJ s.H b=some cs/\(md.sh=true/\eE es=true/\eE cs=true)/\call f (.ptr 0 0::es) [some cs]=some (v,[some cs'])/\(pl v=true/\eE cs'=true)/\s1=⟨s.env,s.H.set b (some cs')⟩/\fl=.lw b:=by
 unfold Wd at h;split at h
 case h_2=>cases h
 rename_i b;split at h
 case h_2=>cases h
 rename_i md q cs hf hb;split at h
 case isFalse=>cases h
 rename_i hp;split at h
 case h_2=>cases h
 rename_i r cs' hc;split at h
 case isFalse=>cases h
 rename_i hr;simp only[af,aB] at h;obtain⟨rfl,rfl,rfl⟩:=h;exact⟨b,md,q,cs,cs',rfl,hf,hb,hp,hc,hr,rfl,rfl⟩
theorem wS {s s1:St} {kd:Kd} {v:AV} {fl:Fq} (h:mP c call s kd=some (some (v,s1,fl))):∃f x es b md q cs cs',kd=.call f (x::es)/\c.loc f=true/\aY c s.env x=.ptr b 0/\c.fn f=some (md,q)/\aJ s.H b=some cs/\(md.sh=true/\eE (dv c s.env es)=true/\eE cs=true)/\call f (.ptr 0 0::dv c s.env es) [some cs]=some (v,[some cs'])/\(pl v=true/\eE cs'=true)/\s1=⟨s.env,s.H.set b (some cs')⟩/\fl=.lw b:=by
 unfold mP at h;split at h
 case h_2=>cases h
 rename_i f x es;split at h
 case isFalse=>cases h
 rename_i hl;simp only[af] at h;obtain⟨b,md,q,cs,cs',h1,h2,h3,h4,h5,h6,h7,h8⟩:=Y7 h;exact⟨f,x,es,b,md,q,cs,cs',rfl,hl,h1,h2,h3,h4,h5,h6,h7,h8⟩
theorem Eh {s s1:St} {kd:Kd} {v:AV} {f:Fq} (h:mP c call s kd=some (some (v,s1,f))):∃b,f=.lw b:=by
 obtain⟨_,_,_,b,_,_,_,_,_,_,_,_,_,_,_,_,_,e⟩:=wS h;exact⟨b,e⟩
theorem PZ:∀{l:List AV},(∀y∈l,pl y=true)->eE l=true
 |[],_=>rfl
 |x::r,h=>by simp only[eE,ae]; exact⟨h x (by simp),PZ fun y hy=>h y (by simp[hy])⟩
theorem K2:∀{l:List AV},(∀y∈l,y.cells=[y])->aA l=l
 |[],_=>rfl
 |x::r,h=>by
   simp only[aA];rw[h x (by simp),K2 fun y hy=>h y (by simp[hy])];rfl
theorem Z0 {x:AV} (h:fz x=true):x.cells=[x]:=by
 have:=(lG h).2;cases x<;>first|rfl|(simp[AV.leaf] at this; done)
theorem abg (cX:eR P c) (nF:aaD P c) {X:Nat->Prop} {φ:cZ} {w:World} {B:Nat->Nat} {base:Nat} {s:St} {o:Oper} {a:Act} {f:Nat} {x:E} {es:List E} {g:Nat->List AV->List AV->Option (List AV × Option Nat)} (hk:cK P o.op (ku (.call f (x::es)))=true) (h:SB X φ w B base s (tm a)) (hg:Am.dH (gb c) X φ w) (LB:c.inp f=some g) {k b len:Nat} {cs ys:List AV} {res:Option Nat} (hx:aY c s.env x=.sl k b 0 len) (hb:aJ s.H b=some cs) (hc:k=1/\len<=cs.length/\K0 cs=true/\eE (dv c s.env es)=true) (HY:g k (cs.take len) (dv c s.env es)=some (ys,res)):kF P X φ w B base ⟨s.env,s.H.set b (some (aA ys++cs.drop len))⟩ (Gw k b res) o a:=by
 obtain⟨rfl,hle,DY,mX⟩:=hc;obtain⟨⟨md,q,hf⟩,hI⟩:=nF f g LB;obtain⟨N,Ha,h,Dx⟩:=h;obtain⟨vargs,oT,hA,Bc⟩:=o0 (kd:=.call f (x::es)) (args:=aY c s.env x::dv c s.env es) cX h hg hk rfl hf;rw[hx] at hA Bc;have hl:(dv c s.env es).length+1=vargs.size:=by have:=hA.1; simpa using this
 obtain⟨v0,NW⟩:=bW (l:=vargs) (i:=0) (by omega);have r0:=hA.2 0 _ v0 rfl NW
 have Wr:∀(i:Nat) (e:AV) (u:Value),(dv c s.env es)[i]?=some e->vargs[i+1]?=some u->bF (Rd X φ w) [] e u:=fun i e u he hu=>by
  have r1:=hA.2 (i+1) e u (by simpa using he) hu;have HF:=fU mX i e he;have ht:fV N e=e:=by cases e<;>first|exact kg N _ HF|(simp[pl] at HF; done)
  rw[ht] at r1;exact r1.dC (fT _ HF) []
 simp only[fV,cC] at r0;obtain⟨as,b1,b2,b3⟩:=h.box b cs hb;have hce:∀y∈cs,y.cells=[y]:=fun y hy=>Z0 (nU DY y hy);have Uc:eE cs=true:=PZ fun y hy=>(lG (nU DY y hy)).1
 have hH1:bV X φ w (Ha.set (N.β b) (some cs)):=less h.heap b1 (by omega) (.inr (by omega)) fun i d hd=>by
  obtain⟨_,a',a1,a2⟩:=b3 i d hd;rw[qY N _ (fU Uc i d hd)] at a2;exact⟨a',a1,a2⟩
 have htd:aA (cs.take len++cs.drop len)=cs:=by rw[Pq]; exact K2 hce
 have bQ:(cs.take len).length=len:=by rw[bj]; omega
 obtain⟨⟨⟨j1,j2⟩,j3,j4⟩,_,j6⟩:=hI 1 _ _ ys res HY (fun y hy=>by rw[hce y (cS hy)]; rfl) (fun y hy d hd=>by
  have Gy:=cS hy;rw[hce y Gy] at hd;simp at hd;subst hd;exact nU DY d Gy)
 have kU:=j6 X φ w (Ha.set (N.β b) (some cs)) (N.β b) (cs.drop len) vargs v0 hH1 (by rw[htd,di,if_pos ⟨rfl,dx b1⟩]) hl NW (by rw[bQ]; exact r0) Wr;intro K Q hK;unfold Oper.wp;rw[oT,Oper.upon_enter];refine kU.mono ?_;rintro e w1 ⟨v',oa,rfl,rv,hh,ad⟩;rw[List.set_set,ga,K2 (l:=cs.drop len) fun y hy=>hce y (cT hy)] at hh
 have O9:eE (aA ys++cs.drop len)=true:=PZ fun y hy=>by
  rcases aD.1 hy with hy|hy
  ·obtain⟨z,hz,hd⟩:=yW hy;exact (lG (j3 z hz y hd)).1
  ·exact (lG (nU DY y (cT hy))).1
 have gI:=h.Ka (cs':=aA ys++cs.drop len) hb Uc O9 ad hh (by rw[di,if_pos ⟨rfl,dx b1⟩]) fun m hm=>by rw[di,if_neg (fun h=>hm h.1)]
 refine hK v' w1 oa (dQ.quiet gI ⟨Dx.1,by simpa using Dx.2⟩ ?_ ?_ ?_) ad
 ·cases res with
  |none=>trivial
  |some m=>
    show b<(s.H.set b _).length;rw[cF]; exact dx hb
 ·cases res<;>trivial
 ·cases res with
  |none=>simpa[Gw,vZ,cC,kj] using rv
  |some m=>simpa[Gw,vZ,cC] using rv
theorem ae0 (cX:eR P c) (nF:tM P c) {X:Nat->Prop} {φ:cZ} {w:World} {B:Nat->Nat} {base:Nat} {s s1:St} {o:Oper} {a:Act} {kd:Kd} {v:AV} {fq:Fq} (hk:cK P o.op (ku kd)=true) (h:SB X φ w B base s (tm a)) (hg:Am.dH (gb c) X φ w) (hs:qG c s kd=some (some (v,s1,fq))):kF P X φ w B base s1 v o a:=by
 unfold qG at hs;split at hs
 case h_2=>cases hs
 rename_i f x es;split at hs
 case h_1=>
  split at hs
  ·cases hs
  ·rename_i g LB;simp only[af] at hs;exact ae4 cX nF.2 hk h hg LB hs
 replace nF:=nF.1;rename_i g LB;simp only[af] at hs;split at hs
 case h_4=>cases hs
 case h_3=>
  rename_i k b len hx;split at hs
  case h_2=>cases hs
  rename_i cs hb;split at hs
  case isFalse=>cases hs
  rename_i hc;split at hs
  case h_2=>cases hs
  rename_i ys res HY;simp only[af,aB] at hs;obtain⟨rfl,rfl,_⟩:=hs;exact abg cX nF hk h hg LB hx hb hc HY
 ·rename_i k hx;split at hs
  case isFalse=>cases hs
  rename_i mX;split at hs
  case h_2=>cases hs
  rename_i ys res HY;simp only[af,aB] at hs;obtain⟨rfl,rfl,_⟩:=hs;obtain⟨⟨md,q,hf⟩,hI⟩:=nF f g LB;obtain⟨N,Ha,h,hb⟩:=h;obtain⟨vargs,oT,hA,Bc⟩:=o0 (kd:=.call f (x::es)) (args:=aY c s.env x::dv c s.env es) cX h hg hk rfl hf;rw[hx] at hA Bc;have hl:(dv c s.env es).length+1=vargs.size:=by have:=hA.1; simpa using this
  obtain⟨v0,NW⟩:=bW (l:=vargs) (i:=0) (by omega);have r0:=hA.2 0 _ v0 rfl NW
  have Wr:∀(i:Nat) (e:AV) (u:Value),(dv c s.env es)[i]?=some e->vargs[i+1]?=some u->bF (Rd X φ w) [] e u:=fun i e u he hu=>by
   have r1:=hA.2 (i+1) e u (by simpa using he) hu;have HF:=fU mX i e he;have ht:fV N e=e:=by cases e<;>first|exact kg N _ HF|(simp[pl] at HF; done)
   rw[ht] at r1;exact r1.dC (fT _ HF) []
  obtain⟨_,j3,_⟩:=hI k _ _ ys res HY (fun y hy=>by simp at hy) (fun y hy=>by simp at hy);simp only[fV,cC] at r0;have kU:=j3 rfl X φ w vargs v0 _ (.inr rfl) hl NW r0 Wr;intro K Q hK;unfold Oper.wp;rw[oT,Oper.upon_enter];refine kU.mono ?_;rintro e w1 ⟨v',rfl,rv,ad⟩;have gI:er X φ w1 N s Ha (tm a):=h.nO (.of_same ad) (h.heap.of_same ad) h.own (fun _ _=>rfl);refine hK v' w1 φ (dQ.quiet gI hb ?_ ?_ ?_) (.of_same ad)
  ·cases res<;>trivial
  ·cases res<;>trivial
  ·cases res with
   |none=>simpa[inpL,vZ,cC,kj] using rv
   |some m=>simpa[inpL,vZ,cC] using rv
 rename_i k p len hx;split at hs
 case h_2=>cases hs
 rename_i k' xs hp;split at hs
 case isFalse=>cases hs
 rename_i hc;obtain⟨rfl,hle,mX⟩:=hc;split at hs
 case h_2=>cases hs
 rename_i ys res HY;simp only[af,aB] at hs;obtain⟨rfl,rfl,_⟩:=hs;obtain⟨⟨md,q,hf⟩,hI⟩:=nF f g LB;obtain⟨N,Ha,h,hb⟩:=h;obtain⟨vargs,oT,hA,Bc⟩:=o0 (kd:=.call f (x::es)) (args:=aY c s.env x::dv c s.env es) cX h hg hk rfl hf;rw[hx] at hA Bc;have hl:(dv c s.env es).length+1=vargs.size:=by have:=hA.1; simpa using this
 obtain⟨v0,NW⟩:=bW (l:=vargs) (i:=0) (by omega);have r0:=hA.2 0 _ v0 rfl NW
 have Wr:∀(i:Nat) (e:AV) (u:Value),(dv c s.env es)[i]?=some e->vargs[i+1]?=some u->bF (Rd X φ w) [] e u:=fun i e u he hu=>by
  have r1:=hA.2 (i+1) e u (by simpa using he) hu;have HF:=fU mX i e he;have ht:fV N e=e:=by cases e<;>first|exact kg N _ HF|(simp[pl] at HF; done)
  rw[ht] at r1;exact r1.dC (fT _ HF) []
 have eM:=h.own p k' xs hp;cases hn:N.ν p with
 |none=>
   rw[hn] at eM;have hxs:xs=[]:=eM;subst hxs;have h0:len=0:=by simpa using hle
   subst h0;obtain⟨⟨⟨j1,_⟩,_,j2⟩,j3,_⟩:=hI k' _ _ ys res HY (fun y hy=>by simp at hy) (fun y hy=>by simp at hy);have hys:ys=[]:=by simpa using j1
   subst hys;simp only[fV,cC,hn] at r0;have kU:=j3 (by simp) X φ w vargs v0 _ (.inl rfl) hl NW r0 Wr;intro K Q hK;unfold Oper.wp;rw[oT,Oper.upon_enter];refine kU.mono ?_;rintro e w1 ⟨v',rfl,rv,ad⟩;obtain⟨se,sH⟩:=PM (s:=s) (p:=p) (v:=.own k' []) (bY.1 hp);have gI:er X φ w1 N (setAt s p (.own k' ([]++([]:List AV).drop 0))) Ha (tm a):=(h.nO (.of_same ad) (h.heap.of_same ad) h.own (fun _ _=>rfl)).ext se sH;refine hK v' w1 φ (dQ.quiet gI ⟨hb.1,by show base<=(setAt s p (.own k' [])).H.length; rw[sH]; exact hb.2⟩ ?_ ?_ ?_) (.of_same ad)
   ·cases res with
    |none=>trivial
    |some m=>
      have:=j2 m rfl;simp at this;subst this
      exact⟨[],by
       show au (setAt s p (.own k' [])) p=_;rw[I5 se sH]; exact hp,by simp⟩
   ·cases res<;>trivial
   ·cases res with
    |none=>simpa[Wh,vZ,cC,kj] using rv
    |some m=>simpa[Wh,vZ,cC,hn] using rv
 |some n=>
   rw[hn] at eM;obtain⟨cs,c1,c2,c3,c4⟩:=eM;have hxs:xs.take len++xs.drop len=xs:=Pq len xs
   have DY:∀y∈xs,∀d∈y.cells,fz d=true:=by
    intro y hy d hd
    have:d∈aA xs:=by
     clear c1 c2 c3 c4 HY hp hle hxs hA r0 Bc hx NW Wr
     induction xs with
     |nil=>simp at hy
     |cons z r ih=>
       simp only[aA,aD];rcases aO.1 hy with e|e
       ·subst e; exact .inl hd
       ·exact .inr (ih e)
    obtain⟨i,hi⟩:=bz this;exact (c4 i d hi).1
   obtain⟨⟨⟨j1,j2⟩,j3,j4⟩,_,j6⟩:=hI k' _ _ ys res HY (fun y hy=>c3 y (cS hy)) (fun y hy=>DY y (cS hy));have bQ:(xs.take len).length=len:=by simp; omega
   rw[bQ] at j1;simp only[fV,cC,hn,s8] at r0
   have hH1:bV X φ w (Ha.set n (some (aA xs))):=less h.heap c1 (by rw[iQ c3]; exact c2) (.inl fun g sz e=>r0.BK e) fun i d hd=>by
    obtain⟨_,a',b1,_,b2⟩:=c4 i d hd;exact⟨a',b1,b2⟩
   have kU:=j6 X φ w (Ha.set n (some (aA xs))) n (xs.drop len) vargs v0 hH1 (by rw[hxs,di,if_pos ⟨rfl,dx c1⟩]) hl NW (by rw[bQ]; exact r0) Wr;intro K Q hK;unfold Oper.wp;rw[oT,Oper.upon_enter];refine kU.mono ?_;rintro e w1 ⟨v',oa,rfl,rv,hh,ad⟩;rw[List.set_set] at hh
   have N3:∀y∈ys++xs.drop len,y.cells.length=k':=fun y hy=>by
    rcases aD.1 hy with hy|hy
    ·exact j2 y hy
    ·exact c3 y (cT hy)
   have ZF:qV (Ha.set n (some (aA (ys++xs.drop len)))) (some n) k' (ys++xs.drop len):=by
    refine⟨aA (ys++xs.drop len),by rw[di,if_pos ⟨rfl,dx c1⟩],by rw[iQ N3]; exact aI _,N3,fun i d hd=>?_⟩;have hm:=yW (bf hd);obtain⟨y,hy,hdy⟩:=hm
    have hfd:fz d=true:=by
     rcases aD.1 hy with hy|hy
     ·exact j3 y hy d hdy
     ·exact DY y (cT hy) d hdy
    exact⟨hfd,d,hd,(lG hfd).2,Le.refl _⟩
   obtain⟨gI,iO⟩:=h.upd (xs':=ys++xs.drop len) hp hn (by simp; omega) ad hh ZF (fun m Ej=>by rw[di,if_neg (fun e=>Ej e.1)])
   have eP:au (setAt s p (.own k' (ys++xs.drop len))) p=some (k',ys++xs.drop len):=by
    have vU:=bY.1 hp;refine bY.2 ?_;rw[CE ⟨(fun cs e=>by cases e),_,vU,(fun cs e=>by cases e)⟩ (FV (by rw[hp]; rfl)),if_pos rfl]
   refine hK v' w1 oa (dQ.quiet gI ⟨hb.1,by rw[iO.len]; exact hb.2⟩ ?_ ?_ ?_) ad
   ·cases res with
    |none=>trivial
    |some m=>
      have:=j4 m rfl;refine⟨_,eP,?_⟩;rw[bC];omega
   ·cases res<;>trivial
   ·cases res with
    |none=>simpa[Wh,vZ,cC,kj] using rv
    |some m=>simpa[Wh,vZ,cC,hn] using rv
theorem aeU (cX:eR P c) (dJ:gG P c call) {X:Nat->Prop} {φ:cZ} {w:World} {B:Nat->Nat} {base:Nat} {s s1:St} {o:Oper} {a:Act} {kd:Kd} {v:AV} {fq:Fq} (hk:cK P o.op (ku kd)=true) (h:SB X φ w B base s (tm a)) (hg:Am.dH (gb c) X φ w) (hs:mP c call s kd=some (some (v,s1,fq))):kF P X φ w B base s1 v o a:=by
 obtain⟨f,x,es,b,md,q,cs,cs',rfl,hl,hx,hf,hb,⟨iO,mX,Uc⟩,hc,⟨hpr,Qw⟩,rfl,rfl⟩:=wS hs;obtain⟨N,Ha,h,Dx⟩:=h;obtain⟨vargs,oT,hA,Bc⟩:=o0 (kd:=.call f (x::es)) (args:=aY c s.env x::dv c s.env es) cX h hg hk rfl hf;rw[hx] at hA Bc;generalize dv c s.env es=as at mX hc hA Bc;obtain⟨bs,b1,b2,b3⟩:=h.box b cs hb
 obtain⟨g,sz,arr,te,g1,g2,g3,g4,g5,g6⟩:=h.heap.cat b1 (fun g sz q=>by
  obtain⟨v0,NW⟩:=bW (l:=vargs) (i:=0) (by have:=hA.1; simp at this; omega);have r0:bF (Rd X φ w) φ (.ptr (N.β b) 0) v0:=hA.2 0 _ v0 rfl NW;exact r0.aa1 q)
 have og:bX φ g:=⟨_,sz,g1⟩
 have ow:∀g0,bX [some (g,sz)] g0->g0=g:=by
  rintro g0 ⟨i,z,hi⟩;cases i with
  |zero=>simp at hi; exact hi.1.symm
  |succ i=>simp at hi
 have rdin:∀a u,Rd X φ w a u->Rd (fun g0=>X g0\/(bX φ g0/\g0≠g)) [some (g,sz)] w a u:=fun a u ⟨h1,h2,h3⟩=>⟨fun h=>h.elim h1 (fun h=>h2 h.1),fun ho=>h2 (by rw[ow _ ho]; exact og),h3⟩
 have hh:bV (fun g0=>X g0\/(bX φ g0/\g0≠g)) [some (g,sz)] w [some cs]:=by
  refine⟨rfl,fun g0 h0=>h0.elim (h.heap.HK g0) (fun ho=>(h.heap.gU ho.1).1),fun i ds hi=>?_,fun i hi=>?_,fun i i' g0 z z' e1 e2=>?_⟩
  ·cases i with
   |succ i=>simp at hi
   |zero=>
     simp at hi;subst hi;refine⟨g,sz,arr,_,rfl,g2,.inl ⟨te,rfl,g3⟩,⟨by omega,fun z=>by omega⟩,fun h0=>h0.elim g5 (fun h1=>h1.2 rfl),fun j d hd=>?_⟩;obtain⟨_,a',Xf,hle⟩:=b3 j d hd;obtain⟨u,u1,u2⟩:=g6 j a' Xf;have hpd:=fU Uc j d hd;rw[qY N _ hpd] at hle;exact⟨u,u1,((hle _ _ _ u2).dC (fT _ hpd) _).mono rdin (.refl _)⟩
  ·cases i with
   |zero=>simp at hi
   |succ i=>simp at hi
  ·cases i with
   |succ i=>simp at e1
   |zero=>cases i' with
     |zero=>rfl
     |succ i'=>simp at e2
 have BF:∀i,get (dN 0 (AV.ptr 0 0::as)) i=(AV.ptr 0 0::as)[i]?.getD .any:=fun i=>by rw[tE]; simp
 have GB:∀i,(get (dN 0 (AV.ptr 0 0::as)) i=.ptr 0 0/\i=0)\/pl (get (dN 0 (AV.ptr 0 0::as)) i)=true:=fun i=>by
  rw[BF];cases i with
  |zero=>exact .inl ⟨rfl,rfl⟩
  |succ i=>
    refine .inr ?_;simp only[mS];cases e:as[i]? with
    |none=>rfl
    |some x=>exact fU mX i x e
 have gV:∀p,au ⟨dN 0 (AV.ptr 0 0::as),[some cs]⟩ p=none:=by
  have hw:∀i,bL (get (dN 0 (AV.ptr 0 0::as)) i)=false:=fun i=>(GB i).elim (fun e=>by rw[e.1]; rfl) tY;intro p;cases p with
  |s i=>exact (dM (s:=⟨dN 0 (AV.ptr 0 0::as),[some cs]⟩) (hw i)).1
  |sc i j=>exact (dM (s:=⟨dN 0 (AV.ptr 0 0::as),[some cs]⟩) (hw i)).2 j
  |c d j=>
    refine BV fun ds hd=>?_;cases d with
    |zero=>simp[aJ] at hd; subst hd; exact Uc
    |succ d=>simp[aJ] at hd
 have mQ:as.length+1=vargs.size:=by simpa using hA.1
 have HE:SB (fun g0=>X g0\/(bX φ g0/\g0≠g)) [some (g,sz)] w (fun _=>0) 1 ⟨dN 0 (AV.ptr 0 0::as),[some cs]⟩ (fun i=>vargs.getD i undef):=by
  refine⟨⟨fun _=>0,fun _=>none⟩,[some cs],⟨fun i=>?_,fun i=>?_,hh,fun p k xs e=>?_,fun d ds e=>?_,fun p q n e1=>?_,fun d p _ e1=>?_,fun d e0 e1 e2 _=>?_⟩,fun b hb=>rfl,by simp⟩
  ·show bF _ _ (jY _ i (get (dN 0 (AV.ptr 0 0::as)) i)) _;rcases GB i with⟨e,rfl⟩|hp
   ·rw[e];obtain⟨v0,NW⟩:=bW (l:=vargs) (i:=0) (by omega);have r0:=hA.2 0 _ v0 rfl NW;rw[bh,NW];simp only[fV,cC] at r0;cases r0 with
    |ptr _ _ _ ad iV h'=>
      refine .ptr _ _ _ _ (by simp) fun g0 z e=>?_;simp at e;obtain⟨rfl,rfl⟩:=e;exact h' g sz g1
   ·rw[ze _ _ hp];cases i with
    |zero=>rw[BF] at hp; simp[pl] at hp
    |succ i=>
      rw[BF] at hp ⊢;simp only[mS] at hp ⊢;cases e:as[i]? with
      |none=>exact .any _ _
      |some y=>
        rw[e] at hp;simp only[eZ] at hp ⊢;obtain⟨v,hv⟩:=bW (l:=vargs) (i:=i+1) (by have:=ak e; omega);have r0:=hA.2 (i+1) y v (by simpa using e) hv;rw[xI N hp] at r0;rw[bh,hv];exact (r0.dC (fT _ hp) _).mono rdin (.refl _)
  ·show cB _ _ (get (dN 0 (AV.ptr 0 0::as)) i);rcases GB i with⟨e,_⟩|hp
   ·rw[e]; simp[cB]
   ·exact vv _ hp
  ·rw[gV] at e; cases e
  ·cases d with
   |succ d=>simp[aJ] at e
   |zero=>
     simp[aJ] at e;subst e;exact⟨cs,rfl,rfl,fun j d hd=>⟨vv _ (fU Uc j d hd),d,hd,by rw[qY _ _ (fU Uc j d hd)]; exact Le.refl _⟩⟩
  ·rw[gV] at e1; cases e1
  ·rw[gV] at e1; cases e1
  ·cases d with
   |succ d=>simp[aJ] at e1
   |zero=>cases e0 with
     |succ d=>simp[aJ] at e2
     |zero=>rfl
 have kU:=dJ f md q hf (AV.ptr 0 0::as) [some cs] v [some cs'] (.inl iO) hc (fun _=>by simp[iu,xO _ Qw,xk]) _ _ w (fun _=>0) vargs (by simpa using hA.1) HE (fun g0=>(hg g0).mono rdin (.refl _));intro K Q hK;unfold Oper.wp;rw[oT,Oper.upon_enter];refine kU.mono ?_;rintro e w1 ⟨v',oa,rfl,⟨N1,H1,gI,Be,_⟩,ad⟩;obtain⟨as1,c1,c2,c3⟩:=gI.box 0 cs' rfl;rw[Be 0 (by simp)] at c1;obtain⟨g',pe,arr1,te1,k1,k2,k3,k4,k5,k6⟩:=gI.heap.at c1;have hgg:=ad.Tj.HQ 0 _ (by simp) k1;simp at hgg;obtain⟨rfl,rfl⟩:=hgg;have ow2:bX oa g:=⟨0,sz,k1⟩;have acQ:∀a u,Rd (fun g0=>X g0\/(bX φ g0/\g0≠g)) oa w1 a u->Rd X φ w1 a u:=fun a u ⟨h1,h2,h3⟩=>⟨fun h=>h1 (.inl h),fun ho=>h1 (.inr ⟨ho,fun e=>h2 (by rw[e]; exact ow2)⟩),h3⟩;have nO:eW φ w φ w1:=⟨ad.os,ad.tape,ad.output,ad.drawn,ad.size,fun g0 bQ hno'=>⟨(ad.keep g0 bQ (fun ho=>hno' (by rw[ow _ ho]; exact og))).1,hno'⟩,.refl _⟩
 have ZJ:bV X φ w1 (Ha.set (N.β b) (some cs')):=by
  refine⟨by simp[h.heap.len],fun g0 h0=>fQ (h.heap.HK g0 h0) ad.size,fun m ds hm=>?_,fun m hm=>?_,h.heap.inj⟩
  ·rw[aX] at hm;split at hm
   ·rename_i e;subst e;split at hm
    ·simp at hm;subst hm;refine⟨g,sz,arr1,te1,g1,k2,k3,⟨by omega,fun z=>by omega⟩,g5,fun j d hd=>?_⟩;obtain⟨_,a',Xf,hle⟩:=c3 j d hd;obtain⟨u,u1,u2⟩:=k6 j a' Xf;have hpd:=fU Qw j d hd;rw[qY N1 _ hpd] at hle;exact⟨u,u1,((hle _ _ _ u2).dC (fT _ hpd) _).mono acQ (.refl _)⟩
    ·cases hm
   ·rename_i tN;obtain⟨g0,Iq,arr0,e0,p1,p2,p3,p4,p5,p6⟩:=h.heap.live m ds hm;have hg0:g0≠g:=fun e=>tN (h.heap.inj _ _ _ _ _ g1 (e▸p1));refine⟨g0,Iq,arr0,e0,p1,?_,p3,p4,p5,fun j d hd=>?_⟩
    ·rw[(ad.keep g0 (fk.1 p2).1 (fun ho=>hg0 (ow _ ho))).1]; exact p2
    ·obtain⟨u,u1,u2⟩:=p6 j d hd;exact⟨u,u1,nO.rep u2⟩
  ·rw[aX] at hm;split at hm
   ·split at hm<;>simp at hm
   ·exact h.heap.dead m hm
 have hlen:(s.H.set b (some cs')).length=s.H.length:=by simp
 have PL:er X φ w1 N ⟨s.env,s.H.set b (some cs')⟩ (Ha.set (N.β b) (some cs')) (tm a):=h.Ka hb Uc Qw nO ZJ (by rw[di,if_pos ⟨rfl,dx b1⟩]) fun m hm=>by rw[di,if_neg (fun h=>hm h.1)]
 have hno2:=tY hpr;have r0:=gI.env 0;simp only[Am.get,if_true] at r0;rw[ze N1 0 hpr] at r0;refine hK v' w1 φ (dQ.quiet PL ⟨Dx.1,by show base<=(s.H.set b (some cs')).length; rw[hlen]; exact Dx.2⟩ (vv v hpr) (lE hno2) ?_) nO;rw[kI N hno2,kg N _ hpr];exact (r0.dC (fT _ hpr) _).mono acQ (.refl _)
theorem aeR (cX:eR P c) (dJ:gG P c call) {X:Nat->Prop} {φ:cZ} {w:World} {B:Nat->Nat} {base:Nat} {s s1:St} {o:Oper} {a:Act} {v:AV} {fq:Fq} {f i:Nat} {es:List E} (hk:cK P o.op (ku (.call f es))=true) (h:SB X φ w B base s (tm a)) (hg:Am.dH (gb c) X φ w) (hs:M4 c call f i s (dv c s.env es)=some (v,s1,fq)):kF P X φ w B base s1 v o a:=by unfold M4 at hs;cases hs
theorem xJ {s s1:St} {kd:Kd} {v:AV} {f:Fq} (h:BJ c call s kd=some (v,s1,f)):f=.all/\aK v=[]:=by unfold BJ at h;cases h
theorem RJ {s:St} {kd:Kd} {x:AV × St × Fq} (h:BJ c call s kd=some x):∃n args H r H',call n args H=some (r,H')/\∀ g:Nat->List AV->Heap->Option (AV × Heap),g n args H=some (r,H')->BJ c g s kd=some x:=by unfold BJ at h;cases h
theorem Xw {s:St} {kd:Kd} {x:AV × St × Fq} (h:BJ c call s kd=some x) (g:Nat->List AV->Heap->Option (AV × Heap)):dP c g kd s=none:=by unfold BJ at h;cases h
theorem iH {s s1:St} {kd:Kd} {v:AV} {f:Fq} (h:sK c call kd s=some (v,s1,f)):dP c call kd s=some (v,s1,f)\/BJ c call s kd=some (v,s1,f):=by
 unfold sK at h;split at h
 ·rename_i x hx;rw[hx];exact .inl h
 ·exact .inr h
theorem rH {s:St} {kd:Kd} {x:AV × St × Fq} (h:dP c call kd s=some x):sK c call kd s=some x:=by
 unfold sK;rw[h]
theorem GR {s:St} {kd:Kd} {x:AV × St × Fq} (h:BJ c call s kd=some x):sK c call kd s=some x:=by
 unfold sK;rw[Xw h];exact h
theorem aeP (cX:eR P c) (dJ:gG P c call) {X:Nat->Prop} {φ:cZ} {w:World} {B:Nat->Nat} {base:Nat} {s s1:St} {o:Oper} {a:Act} {kd:Kd} {v:AV} {fq:Fq} (hk:cK P o.op (ku kd)=true) (h:SB X φ w B base s (tm a)) (hg:Am.dH (gb c) X φ w) (hs:BJ c call s kd=some (v,s1,fq)):kF P X φ w B base s1 v o a:=by unfold BJ at hs;cases hs
theorem F2 (cX:eR P c) (nF:tM P c) (dJ:gG P c call) (iO:Hu P c call) {X:Nat->Prop} {φ:cZ} {w:World} {B:Nat->Nat} {base:Nat} {s s1:St} {o:Oper} {a:Act} {kd:Kd} {v:AV} {fq:Fq} (hk:cK P o.op (ku kd)=true) (h:SB X φ w B base s (tm a)) (hg:Am.dH (gb c) X φ w) (hs:dq c call kd s=some (v,s1,fq)):kF P X φ w B base s1 v o a:=by
 unfold dq at hs;cases hi:qG c s kd with
 |none=>
   rw[hi] at hs;cases hl:mP c call s kd with
   |none=>
     rw[hl] at hs;simp only[fP] at hs;cases hm:sT c call s kd with
     |none=>
       rw[hm] at hs;rcases iH hs with hs|hs
       ·exact V0 cX dJ iO hk h hg hs
       ·exact aeP cX dJ hk h hg hs
     |some r=>
       rw[hm] at hs;simp only at hs;subst hs;unfold sT at hm;split at hm
       case h_2=>cases hm
       rename_i f es;split at hm
       case h_2=>cases hm
       rename_i i hi;simp only[af] at hm;obtain⟨oa,h1,a1⟩:=SB.dK (cW ((dv c s.env es).set i .undef)) h;exact kF.ghost a1 (aeR cX dJ hk h1 (hg.nO a1) hm)
   |some r=>
     rw[hl] at hs;simp only at hs;subst hs;exact aeU cX dJ hk h hg hl
 |some r=>
   rw[hi] at hs;simp only at hs;subst hs;exact ae0 cX nF hk h hg hi
theorem adJ (cX:eR P c) (nF:tM P c) (dJ:gG P c call) (iO:Hu P c call):JY P c call:=by
 intro X φ w B base s o a kd v s1 f hk hs h hg;cases hc:mC kd with
 |false=>exact aeL cX.mixed h hg hk hc hs
 |true=>
   cases kd<;>simp[mC] at hc
   ·simp only[eS] at hs; exact F2 cX nF dJ iO hk h hg hs
   ·simp only[eS] at hs; exact F2 cX nF dJ iO hk h hg hs
end
end Go.Bm

/- A call of a function of the program, from a world of which nothing is known but how the arguments read; given what is still to be shown. -/
namespace Go.Bm
open Go.Am
section
variable {P:Program} {c:dO}
theorem PK (cX:eR P c) (nF:tM P c) (uf:uA P c) (hshc:∀call,gG P c call->Hu P c call) (hdr:∀call,gG P c call->Hw P c call) (iO:∀n,OT P c n->ShOK P c n) (n:Nat):OT P c n:=
 EL (fun call hc=>adJ cX nF hc (hshc call hc)) hdr (fun n hs=>JQ cX uf hs (iO n hs)) n
theorem WS (cX:eR P c) {call:Nat->List AV->Heap->Option (AV × Heap)} (dJ:gG P c call) {f:Nat} {md:Md} {q:gH} (hf:c.fn f=some (md,q)) (iO:md.sh=false) {args:List AV} (hz:eE args=true) {r:AV} {H':Heap} (h:call f args []=some (r,H')) (hr:pl r=true) {w:World} {vargs:Array Value}
  (ha:s6 (fun _=>False) [] w args vargs) (hg:Am.dH (gb c) (fun _=>False) [] w):Calls P f vargs w (fun e w'=>∃v,e=.returned v/\bF (Rd (fun _=>False) [] w') [] r v/\RowKit.Below w.heap.size w w'):=by
 have HE:=SB.start (X:=fun _=>False) (w:=w) (args:=args) (vargs:=vargs) (fun g hg=>hg.elim) hz ha.1 ha.2 (fun _=>0);refine (dJ f md q hf args [] r H' (.inr rfl) h (fun e=>by rw[iO] at e; cases e) (fun _=>False) [] w (fun _=>0) vargs ha.1 HE hg).mono ?_;rintro e w1 ⟨v',oa,rfl,⟨N1,H1,gI,_⟩,a1⟩;have r0:=gI.env 0;simp only[Am.get,if_true] at r0;rw[ze N1 0 hr] at r0;refine⟨v',rfl,(r0.dC (fT _ hr) []).mono (fun a u ⟨h1,_,h3⟩=>⟨h1,bX.nil _,h3⟩) (.refl _),a1.os,a1.tape,a1.output,a1.size,fun k hk=>(a1.keep k hk (bX.nil k)).1⟩
theorem aaz {φ':cZ} {w w':World} (a:eW [] w φ' w'):∃q os,w'=J3 (w.drewN q) os:=by
 refine⟨w'.drawn-w.drawn,w'.heap.extract w.heap.size w'.heap.size,?_⟩;have hd:=a.drawn;have hs:=a.size
 have hh:w'.heap=w.heap++w'.heap.extract w.heap.size w'.heap.size:=by
  apply Array.ext_getElem?;intro k;rw[Array.getElem?_append];split
  ·rename_i h;exact (a.keep k h (bX.nil k)).1
  ·rename_i h;rw[Array.getElem?_extract];by_cases h2:k<w'.heap.size
   ·rw[if_pos (by omega),show w.heap.size+(k-w.heap.size)=k by omega]
   ·rw[if_neg (by omega),LK (by omega)]
 have h1:=a.os;have h2:=a.tape;have h3:=a.output;obtain⟨NY,tp',dr',os',ou'⟩:=w';obtain⟨hp,tp,dr,os,ou⟩:=w;simp only at hh hd h1 h2 h3;subst h1; subst h2; subst h3;unfold J3 World.drewN;simp only[World.mk.injEq,and_true,true_and];exact⟨hh,by omega⟩
theorem Rb (cX:eR P c) {call:Nat->List AV->Heap->Option (AV × Heap)} (dJ:gG P c call) {f:Nat} {md:Md} {q:gH} (hf:c.fn f=some (md,q)) (iO:md.sh=false) {args:List AV} (hz:eE args=true) {r:AV} {H':Heap} (h:call f args []=some (r,H')) (hr:pl r=true) {w:World} {vargs:Array Value}
  (ha:s6 (fun _=>False) [] w args vargs) (hg:Am.dH (gb c) (fun _=>False) [] w):Calls P f vargs w (fun e w'=>∃v,e=.returned v/\bF (Rd (fun _=>False) [] w') [] r v/\∃ q os,w'=J3 (w.drewN q) os):=by
 have HE:=SB.start (X:=fun _=>False) (w:=w) (args:=args) (vargs:=vargs) (fun g hg=>hg.elim) hz ha.1 ha.2 (fun _=>0);refine (dJ f md q hf args [] r H' (.inr rfl) h (fun e=>by rw[iO] at e; cases e) (fun _=>False) [] w (fun _=>0) vargs ha.1 HE hg).mono ?_;rintro e w1 ⟨v',oa,rfl,⟨N1,H1,gI,_⟩,a1⟩;have r0:=gI.env 0;simp only[Am.get,if_true] at r0;rw[ze N1 0 hr] at r0;exact⟨v',rfl,(r0.dC (fT _ hr) []).mono (fun a u ⟨h1,_,h3⟩=>⟨h1,bX.nil _,h3⟩) (.refl _),aaz a1⟩
end
end Go.Bm

/- Regions that draw their order: it makes no difference, given that two steps whose order is open commute. -/
namespace Go.Bm
open Go.Am
section
variable {P:Program} {c:dO} {call:Nat->List AV->Heap->Option (AV × Heap)} {T:St->O->Fq->St->Prop}
abbrev W2:=Nat × Oper × O × Fq
def Rm (P:Program) (c:dO) (T:St->O->Fq->St->Prop):Prop:=
 ∀ X φ w B base N ops s s' (o:Oper) a q f,N<=eY->K8 P N ops o (Oz q)=true->T s q f s'->BD X φ w B base s a N->Am.dH (gb c) X φ w->∀(K:Act->World->Prop) (Q:Exit->Act->World->Prop),(∀a' w' φ',BD X φ' w' B base s' a' N->eW φ w φ' w'->K a' w') ->
  if Region.wanted o (yielded ops a.tmps) then o.wp P a w K Q\/(o.asks P a w/\LetsOut Q) else K (a.put o.dst W4) w
def OW (T:St->O->Fq->St->Prop):Prop:=
 ∀ s x f s1 y g s2,T s x f s1->T s1 y g s2->iY x y=true->ij x f y g=true->∃HM,T s y g HM/\T HM x f s2
def Ln (T:St->O->Fq->St->Prop):List W2->St->St->Prop
 |[],s,sf=>s=sf
 |p::r,s,sf=>∃s1,T s p.2.2.1 p.2.2.2 s1/\Ln T r s1 sf
theorem Ln.K9 (hC:OW T) {x:W2}:∀{R1 R2:List W2} {s sf:St},(∀p∈R1,iY p.2.2.1 x.2.2.1=true/\ij p.2.2.1 p.2.2.2 x.2.2.1 x.2.2.2=true)->Ln T (R1++x::R2) s sf->Ln T (x::(R1++R2)) s sf
 |[],R2,s,sf,_,hr=>hr
 |p::R1,R2,s,sf,h,⟨s1,h1,h2⟩=>by
   obtain⟨s2,h3,h4⟩:=Ln.K9 hC (fun q hq=>h q (by simp[hq])) h2;obtain⟨Cr,hf⟩:=h p (by simp);obtain⟨HM,k1,k2⟩:=hC _ _ _ _ _ _ _ h1 h3 Cr hf;exact⟨HM,k1,s2,k2,h4⟩
theorem acG (hT:Rm P c T) (hC:OW T) {X:Nat->Prop} {B:Nat->Nat} {base N:Nat} (hN:N<=eY) {ops:Array Oper} {Q:Exit->Act->World->Prop} {sf:St} :
  ∀ (fuel:Nat) (R:List W2) (listed:Array Bool) (a:Act) (w:World) (φ:cZ) (s:St),R.length=fuel->(∀i,listed.getD i true=false ↔ ∃p∈R,p.1=i)->listed.size=ops.size ->
   Rr ops listed->(∀p∈R,ops[p.1]?=some p.2.1/\K8 P N ops p.2.1 (Oz p.2.2.1)=true/\∀ e∈p.2.1.after,Region.binds .any e=true->e.on<p.1) ->
   R.Pairwise (fun p q=>p.1<q.1/\(Anc ops p.1 q.1\/(iY p.2.2.1 q.2.2.1=true/\ij p.2.2.1 p.2.2.2 q.2.2.1 q.2.2.2=true)))->Ln T R s sf->BD X φ w B base s a N->Am.dH (gb c) X φ w ->
   (∀a' w' φ',BD X φ' w' B base sf a' N->eW φ w φ' w'->Q .normal a' w')->wpAny P .any ops Q fuel listed a w:=by
 have fin:∀{a:Act} {w:World} {φ:cZ} {s:St},Ln T [] s sf->BD X φ w B base s a N->(∀a' w' φ',BD X φ' w' B base sf a' N->eW φ w φ' w'->Q .normal a' w')->Q .normal a w:=by
  intro a w φ s hr hs hQ;obtain rfl:s=sf:=hr;exact hQ a w φ hs (.refl _ _)
 intro fuel
 induction fuel with
 |zero=>
   intro R listed a w φ s hl hls _ _ _ _ hr hs hg hQ;have hR:R=[]:=dI hl;subst hR;refine⟨?_,fin hr hs hQ⟩;rw[List.eq_nil_iff_forall_not_mem];intro i hi;obtain⟨h1,_⟩:=mem_ready.1 hi;obtain⟨p,hp,_⟩:=(hls i).1 h1;cases hp
 |succ fuel ih=>
   intro R listed a w φ s hl hls mQ LC Cn hpw hr hs hg hQ;refine⟨fun hnil=>?_,fun i hi=>?_⟩
   ·cases R with
    |nil=>simp at hl
    |cons p r=>
      exfalso;obtain⟨h1,h2,h3⟩:=Cn p (by simp)
      have:p.1∈Region.ready .any ops listed:=by
       refine mem_ready.2 ⟨(hls p.1).2 ⟨p,by simp,rfl⟩,p.2.1,h1,fun e he hb=>?_⟩;have bQ:=h3 e he hb;cases hv:listed.getD e.on false with
       |true=>rfl
       |false=>
         exfalso
         have Qz:e.on<listed.size:=by
          rw[mQ];have:=kO h1;omega
         have hv2:listed.getD e.on true=false:=by
          simp[bh,Qz] at hv ⊢;exact hv
         obtain⟨q,hq,hq1⟩:=(hls e.on).1 hv2;rcases aO.1 hq with hq|hq
         ·subst hq; omega
         ·have:=(J0 hpw hq).1;omega
      rw[hnil] at this;cases this
   ·obtain⟨hun,o,ho,j9⟩:=mem_ready.1 hi;obtain⟨x,hx,Zv⟩:=(hls i).1 hun;subst Zv;obtain⟨R1,R2,rfl⟩:=List.append_of_mem hx;obtain⟨h1,h2,h3⟩:=Cn x (by simp);rw[h1] at ho;simp at ho;subst ho;have Wl:=Ry.1 hpw
    have aht:∀p∈R1,iY p.2.2.1 x.2.2.1=true/\ij p.2.2.1 p.2.2.2 x.2.2.1 x.2.2.2=true:=by
     intro p hp;obtain⟨_,Wk⟩:=Wl.2.2 p hp x (by simp);rcases Wk with hw|hw
     ·exfalso
      have:=LC.BA hw x.2.1 h1 fun k hk=>by
       obtain⟨e,he,hb,heq⟩:=zJ.1 hk;rw[<-heq]; exact j9 e he hb
      have hf:=(hls p.1).2 ⟨p,by simp[hp],rfl⟩
      have bQ:p.1<listed.size:=by
       rw[mQ];exact kO (Cn p (by simp[hp])).1
      simp[bh,bQ] at this hf;rw[this] at hf;cases hf
     ·exact hw
    obtain⟨s1,k1,k2⟩:=Ln.K9 hC aht hr;unfold wpOp;rw[h1];refine hT X φ w B base N ops s s1 x.2.1 a x.2.2.1 x.2.2.2 hN h2 k1 hs hg _ _ fun a' w' φ' NX uh=>?_
    refine ih (R1++R2) _ a' w' φ' _ (by simp at hl ⊢; omega) (fun j=>?_) (by simpa using mQ) (fun j oj hj hlj i hi=>?_) (fun p hp=>Cn p (by rcases aD.1 hp with h|h<;>simp[h])) ?_ k2 NX (hg.nO uh)
     fun a'' W6 pj h'' xX=>hQ a'' W6 pj h'' (uh.trans xX)
    ·have hxlt:x.1<listed.size:=by rw[mQ]; exact kO h1
     by_cases hj:j=x.1
     ·subst hj;simp only[bh,Array.getElem?_setIfInBounds_self_of_lt hxlt,eZ];refine⟨(fun h=>by cases h),fun⟨p,hp,W9⟩=>?_⟩;exfalso;rcases aD.1 hp with h|h
      ·have:=(Wl.2.2 p h x (by simp)).1; omega
      ·have:=(J0 Wl.2.1 h).1; omega
     ·have tN:x.1≠j:=fun e=>hj e.symm;rw[bh,hU tN,<-bh,hls j];constructor
      ·rintro⟨p,hp,hpj⟩;refine⟨p,?_,hpj⟩;simp at hp ⊢;rcases hp with h|h|h
       ·exact .inl h
       ·subst h; exact absurd hpj.symm hj
       ·exact .inr h
      ·rintro⟨p,hp,hpj⟩;refine⟨p,?_,hpj⟩;simp at hp ⊢;rcases hp with h|h
       ·exact .inl h
       ·exact .inr (.inr h)
    ·have mono:∀k,listed.getD k false=true->(listed.setIfInBounds x.1 true).getD k false=true:=by
      intro k hk;by_cases hkx:x.1=k
      ·subst hkx;have bQ:x.1<listed.size:=by rw[mQ]; exact kO h1
       simp[bh,bQ]
      ·rw[bh,hU hkx,<-bh]; exact hk
     by_cases hjx:x.1=j
     ·subst hjx;rw[h1] at hj;cases hj;obtain⟨e,he,hb,heq⟩:=zJ.1 hi;exact mono i (by rw[<-heq]; exact j9 e he hb)
     ·refine mono i (LC j oj hj ?_ i hi);rw[bh,hU hjx,<-bh] at hlj;exact hlj
    ·refine Ry.2 ⟨Wl.1,(List.pairwise_cons.1 Wl.2.1).2,fun p hp q hq=>Wl.2.2 p hp q (by simp[hq])⟩

end
end Go.Bm

/- Regions that draw their order, from the machine's own check. -/
namespace Go.Bm
open Go.Am
section
variable {P:Program} {c:dO} {call:Nat->List AV->Heap->Option (AV × Heap)} {T:St->O->Fq->St->Prop}
def Gd:Nat->List Oper->List O->List Fq->List W2
 |k,o::r,q::s,f::t=>(k,o,q,f)::Gd (k+1) r s t
 |_,_,_,_=>[]
theorem tv:∀(k:Nat) (os:List Oper) (qs:List O) (fs:List Fq) (j:Nat) (p:W2),(Gd k os qs fs)[j]?=some p->p.1=k+j/\os[j]?=some p.2.1/\qs[j]?=some p.2.2.1/\fs[j]?=some p.2.2.2
 |k,[],qs,fs,j,p,h=>by simp[Gd] at h
 |k,_::_,[],fs,j,p,h=>by simp[Gd] at h
 |k,_::_,_::_,[],j,p,h=>by simp[Gd] at h
 |k,o::r,q::s,f::t,j,p,h=>by
   simp only[Gd] at h;cases j with
   |zero=>simp at h; subst h; exact⟨rfl,rfl,rfl,rfl⟩
   |succ j=>
     simp at h;obtain⟨h1,h2,h3,h4⟩:=tv (k+1) r s t j p h;exact⟨by omega,by simpa using h2,by simpa using h3,by simpa using h4⟩
theorem Dn:∀(k:Nat) (os:List Oper) (qs:List O) (fs:List Fq),os.length=qs.length->qs.length=fs.length->(Gd k os qs fs).length=os.length
 |k,[],[],[],_,_=>rfl
 |k,o::r,q::s,f::t,h1,h2=>by simp[Gd]; exact Dn (k+1) r s t (by simpa using h1) (by simpa using h2)
 |_,[],_::_,_,h,_=>by simp at h
 |_,_::_,[],_,h,_=>by simp at h
 |_,[],[],_::_,_,h=>by simp at h
 |_,_::_,_::_,[],_,h=>by simp at h
def aaB (c:dO) (call:Nat->List AV->Heap->Option (AV × Heap)) (T:St->O->Fq->St->Prop):Prop:=∀s q f s',yU q.kd=true->sj c call s q=some (s',f)->(nW f=true->T s q f s')/\T s q .all s'
def Gp (un:List (Nat × Nat)):Nat->List Fq->List Fq
 |_,[]=>[]
 |k,f::r=>(if jH k k un then .all else f)::Gp un (k+1) r
theorem Dq (un:List (Nat × Nat)):∀(k:Nat) (fs:List Fq),(Gp un k fs).length=fs.length
 |_,[]=>rfl
 |k,f::r=>by simp[Gp,Dq un (k+1) r]
theorem Nl (un:List (Nat × Nat)):∀(k:Nat) (fs:List Fq) (j:Nat),(Gp un k fs)[j]?=(fs[j]?).map fun f=>if jH (k+j) (k+j) un then .all else f
 |_,[],j=>by simp[Gp]
 |k,f::r,j=>by
   cases j with
   |zero=>simp[Gp]
   |succ j=>simp only[Gp,mS,Nl un (k+1) r]; rw[show k+1+j=k+(j+1) by omega]
theorem MM (hS:aaB c call T) (un:List (Nat × Nat)):∀(k:Nat) (os:List Oper) (qs:List O) (s s':St) (qH:List Fq),os.length=qs.length->(∀q∈qs,yU q.kd=true)->mz c call qs s=some (s',qH)->Ho un k qH=true->qs.length=qH.length/\Ln T (Gd k os qs (Gp un k qH)) s s'
 |k,[],[],s,s',qH,_,_,h,_=>by simp[mz] at h; obtain⟨rfl,rfl⟩:=h; exact⟨rfl,rfl⟩
 |k,[],_::_,_,_,_,hl,_,_,_=>by simp at hl
 |k,_::_,[],_,_,_,hl,_,_,_=>by simp at hl
 |k,o::r,q::qs,s,s',qH,hl,hk,h,hn=>by
   simp only[mz] at h;split at h
   case h_2=>cases h
   rename_i s1 fl1 h1;split at h
   case h_2=>cases h
   rename_i s2 fl2 h2;simp at h;obtain⟨rfl,rfl⟩:=h;simp only[Ho,ae,dS] at hn;obtain⟨hn1,hn2⟩:=hn;obtain⟨h4,h5⟩:=MM hS un (k+1) r qs _ s2 fl2 (by simpa using hl) (fun q hq=>hk q (by simp[hq])) h2 hn2;refine⟨by simp[h4],s1,?_,h5⟩;have:=hS _ _ _ _ (hk q (by simp)) h1;show T s q (if jH k k un then .all else fl1) s1;split
   ·exact this.2
   ·rename_i hp;exact this.1 (hn1.resolve_right hp)
theorem I7 {s s1:St} {kd:Kd} {v:AV} {f:Fq} (h:eS c call s kd=some (v,s1,f)) (hp:still kd=true):f=.no:=by
 cases kd<;>simp[still] at hp<;>simp only[eS] at h
 all_goals try rw[hp] at h
 all_goals
  (repeat' split at h)
  all_goals first
   |(cases h; done)
   |(rename_i hq; cases hq; done)
   |(simp at h; obtain⟨rfl,rfl,rfl⟩:=h; rfl)
theorem Bk {e:Env} {d:Option Nat} {v:AV} {s s':St} {f g:Fq} (h:Bl e d v s f=some (s',g)):g=bP e d f:=by
 unfold Bl at h;split at h
 ·simp at h;exact h.2.symm
 ·cases h
theorem Az {e:Env} {d:Option Nat}:bP e d .no=.no\/bP e d .no=.bo []\/bP e d .no=.sp:=by
 unfold bP;split
 ·exact .inl rfl
 ·split
  ·exact .inr (.inr rfl)
  ·split
   ·exact .inl rfl
   ·exact .inr (.inl rfl)
theorem LU {s s':St} {q:O} {f:Fq} (h:sj c call s q=some (s',f)) (hp:still q.kd=true):f=.no\/f=.bo []\/f=.sp:=by
 unfold sj at h;split at h
 ·split at h
  ·rename_i v s1 fl ho;rw[I7 ho hp] at h;rw[Bk h]; exact Az
  ·cases h
 ·split at h
  ·split at h
   ·split at h
    ·rename_i v s1 fl ho;rw[I7 ho hp] at h;rw[Bk h]; exact Az
    ·cases h
   ·rw[Bk h]; exact Az
  ·rw[Bk h]; exact Az
  ·cases h
theorem zx {un:List (Nat × Nat)}:∀{qs:List O} {k:Nat} {s s':St} {qH:List Fq},mz c call qs s=some (s',qH)->Ho un k qH=true->∀(j:Nat) (q:O) (f:Fq),qs[j]?=some q->qH[j]?=some f->still q.kd=true->jH (k+j) (k+j) un=false->f=.no\/f=.bo []
 |[],_,_,_,_,_,_,j,q,f,hq,_,_,_=>by simp at hq
 |x::r,k,s,s',qH,h,hn,j,q,f,hq,hf,hp,hb=>by
   simp only[mz] at h;split at h
   case h_2=>cases h
   rename_i s1 fl1 h1;split at h
   case h_2=>cases h
   rename_i s2 fl2 h2;simp at h;obtain⟨rfl,rfl⟩:=h;simp only[Ho,ae,dS] at hn;obtain⟨hn1,hn2⟩:=hn;cases j with
   |zero=>
     simp at hq hf hb;subst hq; subst hf;rw[hb] at hn1;rcases LU h1 hp with e|e|e
     ·exact .inl e
     ·exact .inr e
     ·subst e; simp[nW] at hn1
   |succ j=>simp at hq hf; exact zx h2 hn2 j q f hq hf hp (by rw[show k+1+j=k+(j+1) by omega]; exact hb)
theorem G1 {N:Nat} {ops:Array Oper}:∀{l:List Oper} {qs:List O},rN P N ops l qs=true->l.length=qs.length/\∀ (j:Nat) (o:Oper) (q:O),l[j]?=some o->qs[j]?=some q->K8 P N ops o (Oz q)=true
 |[],[],_=>⟨rfl,fun j o q h=>by simp at h⟩
 |[],_::_,h=>by simp[rN] at h
 |_::_,[],h=>by simp[rN] at h
 |o::r,q::s,h=>by
   simp only[rN,ae] at h;obtain⟨hl,hm⟩:=G1 h.2;refine⟨by simp[hl],fun j o' q' h1 h2=>?_⟩;cases j with
   |zero=>simp at h1 h2; subst h1; subst h2; exact h.1
   |succ j=>simp at h1 h2; exact hm j o' q' h1 h2
theorem xg {un:List (Nat × Nat)} {j:Nat} {ys:List Nat} {q:O}:∀{k:Nat} {l:List O},uq un j ys q k l=true->∀(i:Nat) (x:O),l[i]?=some x->G0 un (k+i) j x ys q=true
 |k,[],_,i,x,h=>by simp at h
 |k,z::r,hc,i,x,h=>by
   simp only[uq,ae] at hc;cases i with
   |zero=>simp at h; subst h; exact hc.1
   |succ i=>simp at h; have:=xg hc.2 i x h; rwa [show k+1+i=k+(i+1) by omega] at this
theorem yX {un:List (Nat × Nat)} {ops:Array Oper}:∀{ys:List Oper} {qs seen:List O} {BA:List (List Nat)},nI un BA seen ys qs=true->aaF ops BA->BA.length=seen.length->(∀j,ys[j]?=ops[seen.length+j]?)->∀(j:Nat) (y:Oper) (q:O),ys[j]?=some y->qs[j]?=some q ->
  (∀e∈y.after,Region.binds .any e=true->e.on<seen.length+j)/\∀ (i:Nat) (x:O),(seen++qs)[i]?=some x->i<seen.length+j->Anc ops i (seen.length+j)\/((jH i i un=false/\jH (seen.length+j) (seen.length+j) un=false)/\iY x q=true/\((still x.kd=true/\still q.kd=true)\/jH i (seen.length+j) un=true))
 |[],_,_,_,_,_,_,_,j,y,q,h,_=>by simp at h
 |_::_,[],_,_,_,_,_,_,j,y,q,_,h=>by simp at h
 |z::r,p::s,seen,BA,hc,hanc,LD,hys,j,y,q,h1,h2=>by
   simp only[nI,ae] at hc;obtain⟨⟨⟨_,c1⟩,c2⟩,c3⟩:=hc;have hz:ops[seen.length]?=some z:=by simpa using (hys 0).symm
   cases j with
   |zero=>
     simp at h1 h2;subst h1; subst h2;refine⟨fun e he hb=>?_,fun i x hx hi=>?_⟩
     ·have:=List.all_eq_true.1 c1 e.on (zJ.2 ⟨e,he,hb,rfl⟩);simpa using this
     ·rw[az (by omega)] at hx;have:=xg c2 i x hx;simp only[G0,fg,dS,ae,bt] at this;rcases this with h|h
      ·exact .inl (OS hanc hz i (mem_iff.1 h))
      ·right;exact h
   |succ j=>
     simp at h1 h2
     have ahx:aaF ops (BA++[Hm BA z]):=by
      intro k l hl i hi;by_cases hk:k<BA.length
      ·rw[az hk] at hl; exact hanc k l hl i hi
      ·have hk2:=ak hl;simp at hk2;have hke:k=BA.length:=by omega
       subst hke;simp at hl;subst hl;rw[LD];exact OS hanc hz i hi
     obtain⟨k1,k2⟩:=yX c3 ahx (by simp[LD]) (fun m=>by have:=hys (m+1); simp at this ⊢; rw[this]; congr 1; omega) j y q h1 h2;simp only[bC,cY,fF] at k1 k2;refine⟨fun e he hb=>by have:=k1 e he hb; omega,fun i x hx hi=>?_⟩;have:=k2 i x (by simpa using hx) (by omega)
     rwa [show seen.length+(0+1)+j=seen.length+(j+1) by omega] at this
theorem vA {un:List (Nat × Nat)}:∀{ys:List Oper} {qs seen:List O} {BA:List (List Nat)},nI un BA seen ys qs=true->ys.length=qs.length->∀q∈qs,yU q.kd=true
 |[],[],_,_,_,_,q,hq=>by simp at hq
 |[],_::_,_,_,_,hl,_,_=>by simp at hl
 |_::_,[],_,_,_,hl,_,_=>by simp at hl
 |z::r,p::s,seen,BA,hc,hl,q,hq=>by
   simp only[nI,ae] at hc;rcases aO.1 hq with e|e
   ·subst e; exact hc.1.1.1
   ·exact vA hc.2 (by simpa using hl) q e
theorem Dm {os:List O} {qH:List Fq}:∀{un:List (Nat × Nat)},AQ os qH un=true->∀i j,i≠j->jH i j un=true->ij (os.getD i ⟨none,none,.min []⟩) (qH.getD i .all) (os.getD j ⟨none,none,.min []⟩) (qH.getD j .all)=true
 |[],_,i,j,_,h=>by simp[jH] at h
 |p::r,hk,i,j,tN,h=>by
   obtain⟨x,y⟩:=p;simp only[AQ,ae,dS,decide_eq_true_eq] at hk;simp only[jH,dS,ae,decide_eq_true_eq] at h;rcases h with⟨rfl,rfl⟩|h
   ·exact hk.1.resolve_left tN
   ·exact Dm hk.2 i j tN h
theorem Ko (x y:O) {f g:Fq} (hf:f=.no\/f=.bo []) (hg:g=.no\/g=.bo []):ij x f y g=true:=by
 have d:∀d,Aa d (.bo [])=true:=fun d=>by cases d<;>rfl
 have d':∀d,Aa d .no=true:=fun d=>by cases d<;>rfl
 rcases hf with rfl|rfl<;>rcases hg with rfl|rfl<;>simp[ij,Fq.ok,Ij,d,d']
theorem BD.drew {X:Nat->Prop} {φ:cZ} {w:World} {B:Nat->Nat} {base:Nat} {s:St} {a:Act} {N:Nat} (h:BD X φ w B base s a N):BD X φ w.drew B base s a N:=by
 obtain⟨N1,Ha,xK,hb⟩:=h.sb;exact⟨⟨N1,Ha,xK.nO (.drew _ _) (xK.heap.of_same (ψ:=[]) ⟨rfl,rfl,rfl,Nat.le_succ _,aI _,fun g _ h=>⟨rfl,h⟩,.refl _⟩) xK.own (fun _ _=>rfl),hb⟩,h.defers,h.size⟩
theorem aaa (cX:eR P c) (hS:aaB c call T) (hT:Rm P c T) (hC:OW T):Hw P c call:=by
 intro X φ w B base s s' qH a N id ops os un Q hN hc ho hs hd hr hg hQ;simp only[JC,ae] at hd;obtain⟨hn,hd⟩:=hd;obtain⟨hl,hm⟩:=G1 hc;obtain⟨yd,oT⟩:=MM hS un 0 ops.toList os s s' qH hl (vA ho hl) hs hn;have hlen:=Dn 0 ops.toList os (Gp un 0 qH) hl (by rw[Dq]; exact yd);have uh:eW φ w φ w.drew:=.drew _ _;have hord:=yX (ops:=ops) ho (fun j l hl=>by simp at hl) rfl (fun j=>by simp);have vw:BD X φ w.drew B base s a N:=hr.drew
 refine wp_region_any cX.mixed (acG hT hC (X:=X) (B:=B) (base:=base) hN (sf:=s') ops.size (Gd 0 ops.toList os (Gp un 0 qH)) _ a w.drew φ s (by simpa using hlen) (fun i=>?_) (by simp) (fun j o _ hl=>by simp[bh,kP] at hl; split at hl<;>simp at hl) (fun p hp=>?_) ?_ oT vw (hg.nO uh)
  fun a' w' φ' h k=>hQ a' w' φ' h (uh.trans k))
 ·by_cases hi:i<ops.size
  ·simp only[bh,kP,hi,if_true,eZ,true_iff];obtain⟨p,hp⟩:=aZ (l:=Gd 0 ops.toList os (Gp un 0 qH)) (i:=i) (by rw[hlen]; simpa using hi);exact⟨p,bf hp,by have:=(tv 0 _ _ _ i p hp).1; omega⟩
  ·simp only[bh,kP,hi,if_false,Option.getD_none];refine⟨(fun h=>by cases h),fun⟨p,hp,ZA⟩=>?_⟩;exfalso;obtain⟨j,hj⟩:=bz hp;have h1:=(tv 0 _ _ _ j p hj).1;have h2:=ak hj;rw[hlen] at h2;simp at h2;omega
 ·obtain⟨j,hj⟩:=bz hp;obtain⟨h1,h2,h3,h4⟩:=tv 0 _ _ _ j p hj;have h1':p.1=j:=by omega
  obtain⟨k1,_⟩:=hord j p.2.1 p.2.2.1 h2 h3;refine⟨by rw[h1']; simpa using h2,hm j _ _ h2 h3,fun e he hb=>?_⟩;have:=k1 e he hb;simp at this;omega
 ·rw[List.pairwise_iff_getElem];intro i j hi hj Ek;obtain⟨h1,h2,h3,h4⟩:=tv 0 _ _ _ i _ (aq hi);obtain⟨k1,k2,k3,k4⟩:=tv 0 _ _ _ j _ (aq hj);refine⟨by omega,?_⟩;obtain⟨_,ahl⟩:=hord j _ _ k2 k3;have:=ahl i _ (by simpa using h3) (by simpa using Ek);simp only[fF,fg] at this;rcases this with h|h
  ·left; rw[h1,k1]; simpa using h
  ·right;obtain⟨⟨Be,ug⟩,Cr,h⟩:=h;refine⟨Cr,?_⟩;rw[Nl] at h4 k4;simp only[fg,Be,ug,bp,if_false,Option.map_id'] at h4 k4;rcases h with⟨h5,h6⟩|h5
   ·exact Ko _ _ (zx hs hn i _ _ h3 h4 h5 (by simpa using Be)) (zx hs hn j _ _ k3 k4 h6 (by simpa using ug))
   ·have:=Dm hd i j (by omega) h5;simp only[List.getD_eq_getElem?_getD,h3,k3,h4,k4,eZ] at this;exact this
end
end Go.Bm

/- A step up to what can be seen of a state: StepT and SoundT. -/
namespace Go.Bm
open Go.Am
section
variable {P:Program} {c:dO} {call:Nat->List AV->Heap->Option (AV × Heap)}
def dE (s t:St):Prop:=(∀i,get s.env i=get t.env i)/\s.H=t.H
theorem dE.rfl' {s:St}:dE s s:=⟨fun _=>rfl,rfl⟩
theorem dE.symm {s t:St} (h:dE s t):dE t s:=⟨fun i=>(h.1 i).symm,h.2.symm⟩
theorem dE.trans {s t u:St} (h:dE s t) (k:dE t u):dE s u:=⟨fun i=>(h.1 i).trans (k.1 i),h.2.trans k.2⟩
theorem BD.same {X:Nat->Prop} {φ:cZ} {w:World} {B:Nat->Nat} {base:Nat} {s t:St} {a:Act} {N:Nat} (h:BD X φ w B base s a N) (e:dE s t):BD X φ w B base t a N:=by
 obtain⟨N1,Ha,xK,Be,ug⟩:=h.sb;exact⟨⟨N1,Ha,xK.ext (fun i=>(e.1 i).symm) e.2.symm,Be,by rw[<-e.2]; exact ug⟩,h.defers,h.size⟩
def Ap:Fq->Fq->Prop
 |_,.all=>True
 |.wr sl bs,.wr sl' bs'=>(∀i∈sl,i∈sl')/\(match bs,bs' with
   |none,none=>True
   |some l,some l'=>∀b∈l,b∈l'
   |_,_=>False)
 |f,g=>f=g
theorem Ap.refl (f:Fq):Ap f f:=by
 cases f<;>try exact rfl
 case wr sl bs=>cases bs<;>simp[Ap]
 case all=>trivial
def TS (c:dO) (call:Nat->List AV->Heap->Option (AV × Heap)) (s:St) (q:O) (f:Fq) (s':St):Prop:=
 yU q.kd=true/\∃ s0 s1 f0,dE s s0/\sj c call s0 q=some (s1,f0)/\Ap f0 f/\dE s1 s'
theorem aeb:aaB c call (TS c call):=fun s q f s' hk h=>⟨fun hf=>⟨hk,s,s',f,dE.rfl',h,.refl f,dE.rfl'⟩,⟨hk,s,s',f,dE.rfl',h,by cases f<;>trivial,dE.rfl'⟩⟩
theorem aaP (Cn:JY P c call):Rm P c (TS c call):=by
 intro X φ w B base N ops s s' o a q f hN hc ⟨_,s0,s1,f0,e0,h,_,e1⟩ hr hg K Q hK;have hr0:=hr.same e0
 have hck:cK P o.op (ku q.kd)=true:=by
  have:=hc;simp only[K8,Oz,ae] at this;exact this.2
 exact LR (fun v s2 f hv=>Cn X φ w B base s0 o a q.kd v s2 f hck hv hr0.sb hg) hc hN h hr0 fun a' w' φ' vw k'=>hK a' w' φ' (vw.same e1) k'
theorem WD (cX:eR P c) (Cn:JY P c call) (hC:OW (TS c call)):Hw P c call:=aaa cX aeb (aaP Cn) hC
end
end Go.Bm
