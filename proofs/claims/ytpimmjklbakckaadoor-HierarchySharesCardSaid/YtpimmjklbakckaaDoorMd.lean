/- The machine by value: operations, calls, code. -/
import Derived.Test.YtpimmjklbakckaaDoorMc
import Derived.Scope
import Derived.Sort.Grow
import Derived.Deep.Draws
/- Operations that write: append, clear, stores. -/
set_option linter.unusedSimpArgs false
set_option linter.unusedVariables false
open Array renaming getD_eq_getD_getElem? → aW, getElem?_append_left → rU, getElem?_append_right → FA, getElem?_eq_none → JC, getElem?_eq_some_iff → ff, getElem?_replicate → kQ, getElem?_setIfInBounds_ne → hZ, replicate → qv
open Bool renaming and_eq_false_iff → MV, and_eq_true → ae, false_eq_true → bk, not_eq_true' → bn, or_eq_false_iff → dZ, or_eq_true → dG, true_and → MU
open Go renaming undef → Um
open Go.Sort renaming grow → HP
open List renaming append_assoc → dQ, append_nil → jb, drop_eq_nil_of_le → My, eq_nil_of_length_eq_zero → dH, ext_getElem? → dq, getElem?_append_left → au, getElem?_append_right → aJ, getElem?_cons_succ → mR, getElem?_drop → aO, getElem?_eq_getElem → aB, getElem?_eq_none → dU, getElem?_map → cF, getElem?_of_mem → bt, getElem?_replicate → iu, getElem?_set → aQ, getElem?_take → bC, isEmpty_iff → eY, length_append → bw, length_cons → dz, length_nil → fD, length_set → cO, length_take → bg, mem_append → aC, mem_cons → aK, mem_of_getElem? → aU, mem_of_mem_drop → cQ, mem_of_mem_take → cP, mem_or_eq_of_mem_set → HN, pairwise_append → OS, rel_of_pairwise_cons → HM, replicate → aV, take_append_drop → MQ, take_zero → nU
open Nat renaming add_mul → cj, le_refl → aG, lt_of_lt_of_le → fM, mul_le_mul_right → bK, zero_add → eS, zero_le → Jn, zero_mul → sk
open Option renaming bind_some → Ul, getD_some → eX, isSome_iff_exists → aM, map_some → bV
open Option.some renaming inj → bJ, injEq → af
open Prod.mk renaming injEq → aA
namespace Go.Bm
open Go.Am
section
variable {P:Program} {X:Nat->Prop} {φ φ':cX} {w w':World} {N N':Names} {s s1:St} {Ha Ha':Heap} {t:Nat->Value} {B:Nat->Nat} {base:Nat} {v va:AV} {v':Value} {c:dM} {o:Oper} {a:Act} {kd:Kd}
theorem tX {l:List AV} (h:∀x∈l,x.leaf=true):bm l=true:=by
 induction l with
 |nil=>rfl
 |cons y r ih=>simp only[bm,ae]; exact⟨h y (by simp),ih fun x hx=>h x (by simp[hx])⟩
theorem wh {l:List AV} (h:bm l=true):∀x∈l,x.leaf=true:=by
 induction l with
 |nil=>intro x hx; simp at hx
 |cons y r ih=>
   intro x hx;simp only[bm,ae] at h;rcases aK.1 hx with e|e
   ·subst e; exact h.1
   ·exact ih h.2 x e
theorem xc {k:Nat} {xs:List AV} (h:∀x∈xs,x.cells.length=k) (n:Nat):az (xs.take n)=(az xs).take (n*k):=by
 induction xs generalizing n with
 |nil=>simp[az]
 |cons x r ih=>
   cases n with
   |zero=>simp[az]
   |succ n=>
     have hx:=h x (by simp);simp only[List.take_succ_cons,az,ih (fun y hy=>h y (by simp[hy])) n];rw[List.take_append,hx,cj,Nat.one_mul,List.take_of_length_le (by omega:x.cells.length<=n*k+k),Nat.add_sub_cancel]
theorem Hi {k:Nat} {xs:List AV} (h:∀x∈xs,x.cells.length=k) (n:Nat):az (xs.drop n)=(az xs).drop (n*k):=by
 induction xs generalizing n with
 |nil=>simp[az]
 |cons x r ih=>
   cases n with
   |zero=>simp
   |succ n=>
     have hx:=h x (by simp);simp only[List.drop_succ_cons,az,ih (fun y hy=>h y (by simp[hy])) n];rw[List.drop_append,hx,cj,Nat.one_mul,My (by omega:x.cells.length<=n*k+k),List.nil_append,Nat.add_sub_cancel]
theorem iP {k:Nat} {xs:List AV} (h:∀x∈xs,x.cells.length=k):(az xs).length=xs.length*k:=(gX h).1
theorem CI (h:dY X φ w N s Ha (tm a)) (hg:Am.dD (ga c) X φ w) {k:Nat} {x:E} {o':Operand} (ho:cH o' (kO x)=true) {ys:List AV} (hc:cont s k (aR c s.env x)=some ys) (wZ:bm (az ys)=true) :
  ∃ news,iz Ha k (Am.ev (ga c) (ze N s.env) (kO x))=some (news,ys.length)/\news.length=ys.length*k/\(∀y∈ys,y.cells.length=k)/\bm news=true /\
   ∀ (i:Nat) (d:AV),(az ys)[i]?=some d->fz d=true/\∃ e,news[i]?=some e/\e.leaf=true/\Le d e:=by
 have hx:=cc (c:=c) (cA:=ga c) h rfl ho;have cW:=hx.ok;have r:=bL (c:=ga c) (env:=ze N s.env) (a:=a) (fun i=>by rw[mF]; exact h.env i) hg ho;rw[hx.ev] at r ⊢;cases e:aR c s.env x<;>rw[e] at hc cW r<;>try (simp[cont] at hc; done)
 ·rename_i k' xs;simp only[cont] at hc;split at hc
  case isFalse=>cases hc
  rename_i tq;subst tq;simp at hc;subst hc;simp only[fS,cu,iz,if_true] at r ⊢
  have mY:(∀y∈xs,y.cells.length=k')/\∀ y∈xs,∀d∈y.cells,pl d=true:=by
   generalize a.eval o'=z at r;cases r with
   |uU _ _ _ ad n cap u hn iO hk hu h=>
     refine⟨hk,fun y hy d hd=>?_⟩;obtain⟨i,hi⟩:=bt hy;obtain⟨j,hj⟩:=bt hd;exact UY (h i j y d hi hj) rfl
   |j5=>exact⟨fun y hy=>by simp at hy,fun y hy=>by simp at hy⟩
  refine⟨az xs,rfl,iP mY.1,mY.1,wZ,fun i d hd=>?_⟩;obtain⟨i',y,j,h1,h2,_⟩:=(gX mY.1).2 i d hd;have hdl:=wh wZ d (aU hd);refine⟨?_,d,hd,hdl,Le.refl _⟩;unfold fz;rw[hdl,mY.2 y (aU h1) d (aU h2)];rfl
 ·rename_i k' xs;have:=hx.eo k' xs e;subst this;simp[cont] at hc;subst hc;exact⟨[],by simp[fS,iz],by simp,fun y hy=>by simp at hy,rfl,fun i d hd=>by simp[az] at hd⟩
 ·rename_i k' p off len;simp only[cont] at hc;split at hc
  case h_2=>cases hc
  rename_i wW xs hp;split at hc
  case isFalse=>cases hc
  rename_i hcc;obtain⟨rfl,rfl,hle⟩:=hcc;simp at hc;subst hc;have eG:=h.own p wW xs hp;simp only[fS];rcases sg h cW with⟨n,hn,e2⟩|⟨hn,h0,h1,e2⟩
  ·rw[e2];rw[hn] at eG;obtain⟨cs,c1,c2,c3,c4⟩:=eG
   have hb:off*wW+len*wW<=cs.length:=by
    have:(off+len)*wW<=xs.length*wW:=bK wW hle;rw[cj] at this;omega
   have hys:∀y∈(xs.drop off).take len,y.cells.length=wW:=fun y hy=>c3 y (cQ (cP hy));have hl:((xs.drop off).take len).length=len:=by simp; omega
   have idx:∀(i:Nat) (d:AV),(az ((xs.drop off).take len))[i]?=some d->fz d=true/\∃ e,((cs.drop (off*wW)).take (len*wW))[i]?=some e/\e.leaf=true/\Le d e:=by
    intro i d hd;rw[xc (fun y hy=>c3 y (cQ hy)),Hi c3,bC] at hd;split at hd
    case isFalse=>cases hd
    rename_i hi;rw[aO] at hd;obtain⟨f1,e,f2,f3,f4⟩:=c4 _ d hd;exact⟨f1,e,by rw[bC,if_pos hi,aO]; exact f2,f3,f4⟩
   refine⟨(cs.drop (off*wW)).take (len*wW),by simp only[iz,c1,hl]; rw[if_pos ⟨trivial,hb⟩],by rw[hl]; simp; omega,hys,tX fun x hx=>?_,idx⟩;obtain⟨i,hi⟩:=bt hx;have bY:=aj hi;have:i<(az ((xs.drop off).take len)).length:=by rw[iP hys,hl]; simp at bY; omega
   obtain⟨d,hd⟩:=aS this;obtain⟨_,e,g2,g3,_⟩:=idx i d hd;rw[hi] at g2;cases g2;exact g3
  ·rw[e2];subst h1;exact⟨[],by simp[iz],by simp,fun y hy=>by simp at hy,rfl,fun i d hd=>by simp[az] at hd⟩
theorem Zf (hm:P.follows .mixedOrders=true) (h:SB X φ w B base s (tm a)) (hg:Am.dD (ga c) X φ w) {k k':Nat} {x y:E} (hk:cG P o.op (kz (.app k x y))=true) (yI:aR c s.env x=.own k' []) {ys:List AV} (hy:cont s k (aR c s.env y)=some ys) (wZ:bm (az ys)=true) (hl:ys.length<=p7) :
  kG P X φ w B base s (.own k ys) o a:=by
 obtain⟨N,Ha,h,hb⟩:=h;obtain⟨⟨o1,h1⟩,o2,h2⟩:=R4 hk;have hx:=cc (c:=c) (cA:=ga c) h rfl h1;obtain⟨news,n1,n2,n3,n4,n5⟩:=CI h hg h2 hy wZ;by_cases h0:ys.length=0
 ·have:ys=[]:=dH h0;subst this;refine kG.of (kD (va:=.di) (Ha':=Ha) hm h hg hk (by simp only[kz,fi,n1,hx.ev,yI,fS,fD,if_true]; rfl)) fun v' w' φ' r hh ad=>?_;exact dP.quiet (h.nN ad hh h.own (fun _ _=>rfl)) hb trivial (by simp[EO]) r
 ·refine kG.of (kD (va:=.sl k Ha.length 0 ys.length) (Ha':=Ha++[some news]) hm h hg hk (by simp only[kz,fi,n1,hx.ev,yI,fS,if_neg h0,if_pos (⟨hl,n4⟩:ys.length<=p7/\bm news=true)]; rfl)) fun v' w' φ' r hh ad=>?_;exact zZ h hb ad hh (by omega) n3 n5 r
theorem Ze (hm:P.follows .mixedOrders=true) (h:SB X φ w B base s (tm a)) (hg:Am.dD (ga c) X φ w) {k len:Nat} {x y:E} (hk:cG P o.op (kz (.app k x y))=true) {p:Rt} {xs:List AV} (yI:aR c s.env x=.du k p 0 len) (hp:aq s p=some (k,xs)) (hle:len<=xs.length) {ys:List AV} (hy:cont s k (aR c s.env y)=some ys) (wZ:bm (az ys)=true) (hl:len+ys.length<=p7) :
  kG P X φ w B base (setAt (bX (sw p) s) p .any) (.own k (xs.take len++ys)) o a:=by
 obtain⟨N,Ha,h,hb⟩:=h;obtain⟨⟨o1,h1⟩,o2,h2⟩:=R4 hk;have hx:=cc (c:=c) (cA:=ga c) h rfl h1;have cW:=hx.ok;rw[yI] at cW;obtain⟨news,n1,n2,n3,n4,n5⟩:=CI h hg h2 hy wZ;obtain⟨d1,d2,d3⟩:=h.drop hp;have zW:(∀b,b<base->N.β b=B b)/\base<=(setAt (bX (sw p) s) p .any).H.length:=⟨hb.1,by rw[d3.len]; exact hb.2⟩;have eG:=h.own p k xs hp;rcases sg h cW with⟨n,hn,e2⟩|⟨hn,_,LA,e2⟩
 ·rw[hn] at eG;obtain⟨cs,c1,c2,c3,c4⟩:=eG;have IG:len*k<=cs.length:=Nat.le_trans (bK k hle) c2;have hnlt:=dp c1;refine kG.of (kD (va:=.sl k Ha.length 0 (len+ys.length)) (Ha':=Ha.set n none++[some (cs.take (len*k)++news)]) hm h hg hk (by simp only[kz,fi,n1,hx.ev,yI,fS,e2,sk,c1,if_pos (⟨trivial,IG,hl,n4⟩:True/\len*k<=cs.length/\len+ys.length<=p7/\bm news=true)]; rfl)) fun v' w' φ' r hh ad=>?_;have Cj:∀m,m≠n->aN (Ha.set n none) m=aN Ha m:=fun m CE=>by unfold aN; rw[List.getElem?_set_ne (Ne.symm CE)]
  have j8:∀m,m≠n->m<Ha.length->aN (Ha.set n none++[some (cs.take (len*k)++news)]) m=aN Ha m:=fun m CE bY=>by
   rw[fG,if_neg (by simp; omega),Cj m CE]
  have gE:dY X φ' w' N (setAt (bX (sw p) s) p .any) (Ha.set n none++[some (cs.take (len*k)++news)]) (tm a):=by
   refine d1.nN ad hh (fun q k' zs e=>?_) (fun b BV=>?_)
   ·have e':=e;rw[d2] at e';split at e'
    ·cases e'
    rename_i oR;refine (d1.own q k' zs e).same fun m hmq=>j8 m ?_ ?_
    ·rintro rfl;exact oR (h.inj q p m (by rw[e']; rfl) (by rw[hp]; rfl) hmq hn)
    ·exact h.gU (by rw[e']; rfl) hmq
   ·have IL:(aN s.H b).isSome:=by
     cases e:aN s.H b with
     |none=>rw[d3.Cf b e] at BV; cases BV
     |some _=>rfl
    refine j8 _ ?_ (h.sd IL);intro e;exact h.bx b p IL (by rw[hp]; rfl) (by rw[hn,e])
  have LB:(xs.take len++ys).length=len+ys.length:=by simp; omega
  have htk:∀z∈xs.take len,z.cells.length=k:=fun z hz=>c3 z (cP hz);refine dP.fresh gE zW (n:=Ha.length) ⟨cs.take (len*k)++news,by rw[fG,if_pos (by simp)],?_,?_,?_⟩ (fun q hq e=>?_) (fun b BV e=>?_) (by rw[LB]; exact r)
  ·rw[LB,cj,bw,bg,n2]; omega
  ·intro z hz;rcases aC.1 hz with hz|hz
   ·exact htk z hz
   ·exact n3 z hz
  ·intro i d hd;rw[jU,xc c3] at hd
   have hlt1:((az xs).take (len*k)).length=len*k:=by
    have:=iP c3;have:len*k<=xs.length*k:=bK k hle;rw[bg]; omega
   rw[List.getElem?_append] at hd;rw[hlt1] at hd;split at hd
   ·rename_i hi;rw[bC,if_pos hi] at hd;obtain⟨f1,e,f2,f3,f4⟩:=c4 i d hd;exact⟨f1,e,by rw[au (by simp; omega),bC,if_pos hi]; exact f2,f3,f4⟩
   ·rename_i hi;obtain⟨f1,e,f2,f3,f4⟩:=n5 _ d hd;refine⟨f1,e,?_,f3,f4⟩;rw[aJ (by simp; omega)];rw[bg,Nat.min_eq_left IG];exact f2
  ·have hq':(aq s q).isSome:=by
    rw[d2] at hq;split at hq
    ·cases hq
    ·exact hq
   have:=h.gU hq' e;omega
  ·have IL:(aN s.H b).isSome:=by
    cases e:aN s.H b with
    |none=>rw[d3.Cf b e] at BV; cases BV
    |some _=>rfl
   have:=h.sd IL;omega
 ·rw[hn] at eG;have hxs:xs=[]:=eG;subst hxs;subst LA
  have simq:∀{φ' w' Ha'},eT φ w φ' w'->bO X φ' w' Ha'->(∀m,m<Ha.length->aN Ha' m=aN Ha m)->dY X φ' w' N (setAt (bX (sw p) s) p .any) Ha' (tm a):=by
   intro φ' w' Ha' ad hh j8;refine d1.nN ad hh (fun q k' zs e=>?_) (fun b BV=>?_)
   ·exact (d1.own q k' zs e).same fun m hmq=>j8 m (d1.gU (by rw[e]; rfl) hmq)
   ·exact j8 _ (d1.sd BV)
  by_cases h0:ys.length=0
  ·have:ys=[]:=dH h0;subst this;refine kG.of (kD (va:=.di) (Ha':=Ha) hm h hg hk (by simp only[kz,fi,n1,hx.ev,yI,fS,e2,fD,if_true]; rfl)) fun v' w' φ' r hh ad=>?_;exact dP.quiet (simq ad hh fun _ _=>rfl) zW trivial (by simp[EO]) r
  ·have TH:ys.length<=p7:=by omega
   refine kG.of (kD (va:=.sl k Ha.length 0 ys.length) (Ha':=Ha++[some news]) hm h hg hk (by simp only[kz,fi,n1,hx.ev,yI,fS,e2,if_neg h0,if_pos (⟨TH,n4⟩:ys.length<=p7/\bm news=true)]; rfl)) fun v' w' φ' r hh ad=>?_;have gE:=simq ad hh fun m bY=>by rw[fG,if_neg (by omega)]
   refine dP.fresh gE zW (n:=Ha.length) ⟨news,Fb _ _,by simp; omega,by simpa using n3,by simpa using n5⟩ (fun q hq e=>?_) (fun b BV e=>?_) (by simpa using r)
   ·have:=d1.gU hq e; omega
   ·have:=d1.sd BV; omega
end
end Go.Bm

/- Stores and clearing. -/
namespace Go.Bm
open Go.Am
mutual
theorem Q7 {o o':Rt->Option (Nat × List AV)} {nb:Nat} (ho:∀p k xs,o p=some (k,xs)->∃ys,o' p=some (k,ys)/\xs.length<=ys.length):∀x,ct o nb x->ct o' nb x
 |.du k p off len,h=>by simp only[ct] at h ⊢; obtain⟨xs,e,h2⟩:=h; obtain⟨ys,e2,h3⟩:=ho p k xs e; exact⟨ys,e2,by omega⟩
 |.eR k p i off,h=>by simp only[ct] at h ⊢; obtain⟨xs,e,h2⟩:=h; obtain⟨ys,e2,h3⟩:=ho p k xs e; exact⟨ys,e2,by omega⟩
 |.ptr b off,h=>h
 |.agg cs,h=>by simp only[ct] at h ⊢; exact zB ho cs h
 |.dA cs,h=>by simp only[ct] at h ⊢; exact zB ho cs h
 |.func f a b,h=>by simp only[ct] at h ⊢; exact⟨zB ho a h.1,zB ho b h.2.1,h.2.2⟩
 |.any,_=>trivial
 |.undef,_=>trivial
 |.fg,_=>trivial
 |.fj,_=>trivial
 |.di,_=>trivial
 |.int _ _,_=>trivial
 |.bool _,_=>trivial
 |.str _,_=>trivial
 |.list _ _,_=>trivial
 |.de _,_=>trivial
 |.own _ _,_=>trivial
 |.sl _ _ _ _,h=>h
theorem zB {o o':Rt->Option (Nat × List AV)} {nb:Nat} (ho:∀p k xs,o p=some (k,xs)->∃ys,o' p=some (k,ys)/\xs.length<=ys.length):∀cs,jX o nb cs->jX o' nb cs
 |[],_=>trivial
 |x::r,h=>⟨Q7 ho x h.1,zB ho r h.2⟩
end
theorem kL {l vs:List AV} {off:Nat} (h:off+vs.length<=l.length) (m:Nat):(iX l off vs)[m]?=if m<off then l[m]? else if m<off+vs.length then vs[m-off]? else l[m]?:=by
 unfold iX;have h1:(l.take off).length=off:=by simp; omega
 by_cases a:m<off
 ·rw[if_pos a,dQ,au (by omega),bC,if_pos a]
 ·rw[if_neg a];by_cases b:m<off+vs.length
  ·rw[if_pos b,dQ,aJ (by omega),h1,au (by omega)]
  ·rw[if_neg b,aJ (by simp; omega),aO];congr 1;simp; omega
section
variable {P:Program} {X:Nat->Prop} {φ φ':cX} {w w':World} {N N':Names} {s s1:St} {Ha Ha':Heap} {t:Nat->Value} {B:Nat->Nat} {base:Nat} {v va:AV} {v':Value} {c:dM} {o:Oper} {a:Act} {kd:Kd}
theorem Yx {p:Rt} {k:Nat} {xs xs':List AV} (hp:aq s p=some (k,xs)) (hl:xs'.length=xs.length) (i:Nat):jW N i (get (setAt s p (.own k xs')).env i)=jW N i (get s.env i):=by
 have u4:=bR.1 hp;cases p with
 |s j=>
   simp only[at_,af] at u4;simp only[setAt,bz];by_cases e:i=j
   ·subst e; rw[if_pos rfl,u4]; simp only[jW,iJ,hl]
   ·rw[if_neg e]
 |sc j l=>
   simp only[at_] at u4;cases hg:get s.env j<;>rw[hg] at u4<;>simp at u4
   rename_i ds;have hs:setAt s (.sc j l) (.own k xs')=⟨put s.env j (.agg (ds.set l (.own k xs'))),s.H⟩:=by simp[setAt,hg]
   rw[hs];simp only[bz];by_cases e:i=j
   ·subst e;rw[if_pos rfl,hg];simp only[jW];congr 1;apply dq;intro m;rw[fy,fy,aQ];by_cases hm:l=m
    ·subst hm;rw[if_pos rfl,if_pos (aj u4),u4];simp only[bV,iJ,hl]
    ·rw[if_neg hm]
   ·rw[if_neg e]
 |c b l=>
   simp only[at_] at u4;cases hg:aN s.H b<;>rw[hg] at u4<;>simp at u4
   simp[setAt,hg]
theorem dY.upd (h:dY X φ w N s Ha t) {p:Rt} {k n:Nat} {xs xs':List AV} (hp:aq s p=some (k,xs)) (hn:N.ν p=some n) (hl:xs'.length=xs.length) (ad:eT φ w φ' w') (hh:bO X φ' w' Ha') (ho:qj Ha' (some n) k xs') (hb:∀m,m≠n->aN Ha' m=aN Ha m) :
  dY X φ' w' N (setAt s p (.own k xs')) Ha' t/\Shape s (setAt s p (.own k xs')):=by
 have u4:=bR.1 hp;have oS:Fits s p (.own k xs'):=⟨(fun cs e=>by cases e),_,u4,(fun cs e=>by cases e)⟩;have iN:=Shape.set oS;generalize Lw:setAt s p (.own k xs')=s' at iN ⊢
 have own:∀q,aq s' q=if q=p then some (k,xs') else aq s q:=by
  refine wP iN (fun q hq=>?_) (fun q hq=>?_)
  ·have e:at_ s' q=if q=p then some (.own k xs') else at_ s q:=by rw[<-Lw]; exact Br oS hq
   by_cases oR:q=p
   ·rw[if_pos oR] at e ⊢; exact bR.2 e
   ·rw[if_neg oR] at e ⊢; exact gJ e
  ·rw[if_neg (by rintro rfl; exact hq (DO (by rw[hp]; rfl)))];exact sV hq
 have hlen:∀q k' ys,aq s q=some (k',ys)->∃zs,aq s' q=some (k',zs)/\ys.length<=zs.length:=by
  intro q k' ys e;rw[own];by_cases oR:q=p
  ·subst oR;rw[hp] at e;cases e;exact⟨xs',by rw[if_pos rfl],by omega⟩
  ·exact⟨ys,by rw[if_neg oR]; exact e,aG _⟩
 have oiff:∀{q},(aq s' q).isSome->(aq s q).isSome:=by
  intro q hq;rw[own] at hq;by_cases oR:q=p
  ·subst oR; rw[hp]; rfl
  ·rw[if_neg oR] at hq; exact hq
 have biff:∀{b},(aN s'.H b).isSome->(aN s.H b).isSome:=by
  intro b hb;cases e:aN s.H b with
  |none=>rw[iN.Cf b e] at hb; cases hb
  |some _=>rfl
 have okk:∀r y,Lf s' r->at_ s' r=some y->ct (aq s') s'.H.length y:=by
  intro r y hr hy;obtain⟨uG,x,hx⟩:=iN.back hr hy;have e:at_ s' r=if r=p then some (.own k xs') else at_ s r:=by rw[<-Lw]; exact Br oS uG
  rw[e] at hy;by_cases Ck:r=p
  ·rw[if_pos Ck] at hy; cases hy; trivial
  ·rw[if_neg Ck] at hy;rw[iN.len];exact Q7 hlen y (h.zA hy)
 obtain⟨hk,Yk⟩:=DT okk;refine⟨⟨fun i=>?_,hk,hh,fun q k' ys e=>?_,fun b cs e=>?_,fun q r m e1 e2 e3 e4=>h.inj q r m (oiff e1) (oiff e2) e3 e4,fun b q e1 e2 e3=>h.bx b q (biff e1) (oiff e2) e3,fun b d e1 e2 e3=>h.bi b d (biff e1) (biff e2) e3⟩,iN⟩
 ·rw[<-Lw,Yx hp hl]; exact ad.rep (h.env i)
 ·rw[own] at e;by_cases oR:q=p
  ·subst oR;rw[if_pos rfl] at e;cases e;rw[hn];exact ho
  ·rw[if_neg oR] at e;refine (h.own q k' ys e).same fun m hm=>hb m ?_;rintro rfl;exact oR (h.inj q p m (by rw[e]; rfl) (by rw[hp]; rfl) hm hn)
 ·cases IL:aN s.H b with
  |none=>rw[iN.Cf b IL] at e; cases e
  |some Ux=>
    obtain⟨ds,q1,q2⟩:=iN.box b Ux IL;rw[e] at q1; cases q1;obtain⟨as,g1,g2,g3⟩:=h.box b Ux IL;refine⟨as,?_,by omega,fun j d hd=>⟨Yk b cs e j d hd,?_⟩⟩
    ·rw[hb]
     ·exact g1
     ·intro e3; exact h.bx b p (by rw[IL]; rfl) (by rw[hp]; rfl) (by rw[hn,e3])
    ·obtain⟨d0,hd0⟩:=aS (l:=Ux) (i:=j) (by have:=aj hd; omega);obtain⟨_,a',a1,a2⟩:=g3 j d0 hd0;refine⟨a',a1,?_⟩;have e3:at_ s' (.c b j)=if Rt.c b j=p then some (.own k xs') else at_ s (.c b j):=by rw[<-Lw]; exact Br oS (fun i e=>by cases e)
     rw[v8 e,v8 IL,hd,hd0] at e3;by_cases Ck:Rt.c b j=p
     ·rw[if_pos Ck] at e3;cases e3
      have hat':d0=.own k xs:=by
       rw[<-Ck,v8 IL,hd0] at u4;exact bJ u4
      subst hat';simp only[iJ,hl] at a2 ⊢;exact a2
     ·rw[if_neg Ck] at e3;cases e3;exact a2
theorem M0 {k off:Nat} {x:AV} {vs:List AV} (hx:x.cells.length=k) (hf:off+vs.length<=k):(JG k x off vs).cells=iX x.cells off vs:=by
 unfold JG;split
 ·rename_i h;rw[tc];obtain⟨rfl,hl⟩:=h;unfold iX;rw[My (by omega)];simp
 ·rw[tc]
theorem OZ:∀{cs:List AV},IY cs=true->gI N cs=cs
 |[],_=>rfl
 |x::r,h=>by
   simp only[IY,ae] at h;simp only[gI];rw[OZ h.2];have:=(lI h.1).1;congr 1;cases x<;>first|exact kg N _ this|(simp[pl] at this; done)
theorem acX (hm:P.follows .mixedOrders=true) (h:SB X φ w B base s (tm a)) (hg:Am.dD (ga c) X φ w) {k k' i off:Nat} {x y:E} {p:Rt} {xs:List AV} {u:AV} (hk:cG P o.op (kz (.st k x y))=true) (yI:aR c s.env x=.eR k' p i off) (hp:aq s p=some (k',xs)) (hu:xs[i]?=some u)
  (h1:(aR c s.env y).cells.length=k) (h2:off+k<=k') (h3:IY (aR c s.env y).cells=true):kG P X φ w B base (setAt s p (.own k' (xs.set i (JG k' u off (aR c s.env y).cells)))) .undef o a:=by
 obtain⟨N,Ha,h,hb⟩:=h;obtain⟨⟨o1,c1⟩,o2,c2⟩:=adX hk;have hx:=cc (c:=c) (cA:=ga c) h rfl c1;have hy:=cc (c:=c) (cA:=ga c) h rfl c2;have cW:=hx.ok;rw[yI] at cW;obtain⟨n,hn,e2⟩:=DG h cW;have eG:=h.own p k' xs hp;rw[hn] at eG;obtain⟨cs,q1,q2,q3,q4⟩:=eG;generalize Js:(aR c s.env y).cells=vs at h1 h3 ⊢;have mY:(Am.ev (ga c) (ze N s.env) (kO y)).cells=vs:=by rw[hy.ev,E5 N hy.na,Js,OZ h3]
 have wZ:bm vs=true:=tX fun z hz=>(lI (nQ h3 z hz)).2;have huk:u.cells.length=k':=q3 u (aU hu);have hilt:=aj hu;have tr:(i+1)*k'<=xs.length*k':=bK k' hilt;rw[cj] at tr;have oS:i*k'+off+k<=cs.length:=by omega
 refine kG.of (kD (va:=.undef) (Ha':=Ha.set n (some (iX cs (i*k'+off) vs))) hm h hg hk (by simp only[kz,fi,hx.ev,yI,fS,e2,q1,mY,if_pos (⟨h1,oS,wZ⟩:vs.length=k/\i*k'+off+k<=cs.length/\bm vs=true)]; rfl)) fun v' w' φ' r hh ad=>?_;have NU:=M0 (k:=k') (off:=off) (vs:=vs) huk (by omega)
 have WW:qj (Ha.set n (some (iX cs (i*k'+off) vs))) (some n) k' (xs.set i (JG k' u off vs)):=by
  refine⟨iX cs (i*k'+off) vs,by rw[df,if_pos ⟨rfl,dp q1⟩],?_,?_,?_⟩
  ·rw[cO,fO (by omega)]; exact q2
  ·intro z hz;rcases HN hz with hz|rfl
   ·exact q3 z hz
   ·rw[NU,fO (by omega),huk]
  ·have abZ:∀z∈xs.set i (JG k' u off vs),z.cells.length=k':=by
    intro z hz;rcases HN hz with hz|rfl
    ·exact q3 z hz
    ·rw[NU,fO (by omega),huk]
   intro m d hd;obtain⟨i',z,j,z1,z2,z3⟩:=(gX abZ).2 m d hd;have hj:j<k':=by rw[<-abZ z (aU z1)]; exact aj z2
   rw[aQ] at z1;by_cases hii:i=i'
   ·subst hii;rw[if_pos rfl,if_pos hilt] at z1;cases z1;rw[NU,kL (by omega)] at z2
    have FQ:u.cells[j]?=some d->j<off\/¬ j<off+vs.length->fz d=true/\∃ e,(iX cs (i*k'+off) vs)[m]?=some e/\e.leaf=true/\Le d e:=by
     intro e hc;obtain⟨f1,e',f2,f3,f4⟩:=q4 _ d (z6 q3 hu e);refine⟨f1,e',?_,f3,f4⟩;rw[z3,kL (by omega)];rcases hc with hc|hc
     ·rw[if_pos (by omega)]; exact f2
     ·rw[if_neg (by omega),if_neg (by omega)]; exact f2
    split at z2
    ·rename_i hc; exact FQ z2 (.inl hc)
    ·split at z2
     ·rename_i MI F1;have hz:=nQ h3 d (aU z2);refine⟨hz,d,?_,(lI hz).2,Le.refl _⟩;rw[z3,kL (by omega),if_neg (by omega),if_pos (by omega),show i*k'+j-(i*k'+off)=j-off by omega];exact z2
     ·rename_i MI F1; exact FQ z2 (.inr F1)
   ·rw[if_neg hii] at z1;obtain⟨f1,e',f2,f3,f4⟩:=q4 _ d (z6 q3 z1 z2);refine⟨f1,e',?_,f3,f4⟩;rw[z3,kL (by omega)];rcases Nat.lt_or_gt_of_ne hii with bY|hgt
    ·have:(i+1)*k'<=i'*k':=bK k' bY;rw[cj] at this;rw[if_neg (by omega),if_neg (by omega)];exact f2
    ·have:(i'+1)*k'<=i*k':=bK k' hgt;rw[cj] at this;rw[if_pos (by omega)];exact f2
 obtain⟨gE,iN⟩:=h.upd (xs':=xs.set i (JG k' u off vs)) hp hn (by simp) ad hh WW (fun m CE=>by rw[df,if_neg (fun e=>CE e.1)]);exact dP.quiet gE ⟨hb.1,by rw[iN.len]; exact hb.2⟩ trivial trivial r
end
end Go.Bm

/- Stores into boxes. -/
namespace Go.Bm
open Go.Am
section
variable {P:Program} {X:Nat->Prop} {φ φ':cX} {w w':World} {N N':Names} {s s' s1:St} {Ha Ha':Heap} {t t':Nat->Value} {B:Nat->Nat} {base:Nat} {v va:AV} {v':Value} {c:dM} {o:Oper} {a:Act} {kd:Kd}
theorem sX (i b off:Nat):∀k p x l,ir i b off (.du k p x l)=.du k (gL i b off p) x l/\ir i b off (.eR k p x l)=.eR k (gL i b off p) x l:=fun _ _ _ _=>⟨rfl,rfl⟩
theorem wG (N:Names) (i:Nat) (v:AV):(jW N i v).cells.length=v.cells.length/\∀ (j:Nat) (d:AV),v.cells[j]?=some d->(jW N i v).cells[j]?=some (iJ N (match v with
  |.agg _=>.sc i j
  |_=>.s i) d):=by
 by_cases ha:∃cs,v=.agg cs
 ·obtain⟨cs,rfl⟩:=ha;simp only[jW,AV.cells];exact⟨fN _ _ _ _,fun j d hd=>by rw[fy,hd]; simp⟩
 ·have hn:ja v:=fun cs e=>ha ⟨cs,e⟩;have e1:jW N i v=iJ N (.s i) v:=by cases v<;>first|rfl|exact absurd rfl (hn _)
  have e2:v.cells=[v]:=by cases v<;>first|rfl|exact absurd rfl (hn _)
  have e3:(iJ N (.s i) v).cells=[iJ N (.s i) v]:=by
   cases v<;>first
    |rfl
    |exact absurd rfl (hn _)
    |(rename_i k xs; simp only[iJ,qI]; cases N.ν (.s i)<;>rfl)
    |(rename_i k p x l; simp only[iJ,cu]; cases N.ν p<;>rfl)
  rw[e1,e2,e3];refine⟨rfl,fun j d hd=>?_⟩;cases j with
  |zero=>
    simp at hd;subst hd;cases v<;>first|rfl|exact absurd rfl (hn _)
  |succ j=>simp at hd
theorem Ec {g:AV->AV} (hg:jM g) (v:AV):(cC g v).cells=cK g v.cells:=by
 by_cases ha:∃cs,v=.agg cs
 ·obtain⟨cs,rfl⟩:=ha;simp[cC,AV.cells]
 ·have hn:ja v:=fun cs e=>ha ⟨cs,e⟩;have Yh:=lz hg hn;have e2:v.cells=[v]:=by cases v<;>first|rfl|exact absurd rfl (hn _)
  rw[e2];simp only[cK];generalize cC g v=y at Yh;cases y<;>first|rfl|exact absurd rfl (Yh _)
def qZ (i:Nat) (v:AV) (j:Nat):Rt:=
 match v with
 |.agg _=>.sc i j
 |_=>.s i
theorem Uj {i:Nat} {j:Nat} {d:AV} (h:(get s.env i).cells[j]?=some d):at_ s (qZ i (get s.env i) j)=some d:=by
 by_cases ha:∃cs,get s.env i=.agg cs
 ·obtain⟨cs,e⟩:=ha;rw[e] at h ⊢;simp only[qZ];rw[Fe e];exact h
 ·have hn:ja (get s.env i):=fun cs e=>ha ⟨cs,e⟩
  have e2:(get s.env i).cells=[get s.env i]:=by
   generalize get s.env i=v at hn;cases v<;>first|rfl|exact absurd rfl (hn _)
  have e3:qZ i (get s.env i) j=.s i:=by
   generalize get s.env i=v at hn;cases v<;>first|rfl|exact absurd rfl (hn _)
  rw[e2] at h;rw[e3];cases j with
  |zero=>simp at h; rw[<-h]; rfl
  |succ j=>simp at h
theorem dY.aa0 (h:dY X φ w N s Ha t) {i b off k:Nat} {cs as:List AV} (hb:aN s.H b=some cs) (has:aN Ha (N.β b)=some as) (hk:(get s.env i).cells.length=k) (oS:off+k<=cs.length)
  (hC:∀r x,at_ s r=some x->∀p∈aI x,cM b off k p=false)
  (ad:eT φ w φ' w') (hh:bO X φ' w' (Ha.set (N.β b) (some (iX as off (jW N i (get s.env i)).cells))))
  (he:∀j,get s'.env j=if j=i then .any else cC (ir i b off) (get s.env j)) (hH:s'.H=(fH (ir i b off) s.H).set b (some (iX (cK (ir i b off) cs) off (cC (ir i b off) (get s.env i)).cells))) (ht:∀j,j≠i->t' j=t j) :
  ∃ N',N'.β=N.β/\dY X φ' w' N' s' (Ha.set (N.β b) (some (iX as off (jW N i (get s.env i)).cells))) t':=by
 have hg:=sX i b off;have hL:=Rq i b off;generalize hv:get s.env i=v at *;obtain⟨tc1,tc2⟩:=wG N i v;have Z3:=dp hb;have halt:=dp has
 have hasl:as.length=cs.length:=by
  obtain⟨as',g1,g2,_⟩:=h.box b cs hb;rw[has] at g1; cases g1; exact g2
 have Ju:(cC (ir i b off) v).cells=cK (ir i b off) v.cells:=Ec hL v
 -- where a place of the new state comes from
 obtain⟨u,hu1,ZM⟩:∃u:Rt->Rt,(∀j,off<=j->j<off+k->u (.c b j)=qZ i v (j-off))/\∀ q,cM b off k q=false->u q=q:=
  ⟨fun q=>match q with
   |.c d j=>if d=b/\off<=j/\j<off+k then qZ i v (j-off) else .c d j
   |q=>q,fun j h1 h2=>by simp[h1,h2],fun q hq=>by
     cases q with
     |s j=>rfl
     |sc j l=>rfl
     |c d j=>
       simp only[cM,MV,decide_eq_false_iff_not] at hq;have:¬(d=b/\off<=j/\j<off+k):=by omega
       simp[this]⟩
 have blkH:∀d,aN s'.H d=if d=b then some (iX (cK (ir i b off) cs) off (cK (ir i b off) v.cells)) else (aN s.H d).map (cK (ir i b off)):=by
  intro d;rw[hH,df,eZ,Ju,fe];by_cases e:d=b
  ·subst e; simp[Z3]
  ·simp[e]
 have atq:∀q,bq i q=false->cM b off k q=false->at_ s' q=(at_ s q).map (cC (ir i b off)):=by
  intro q h1 h2;cases q with
  |s j=>simp only[bq,decide_eq_false_iff_not] at h1; simp[at_,he,h1]
  |sc j l=>
    simp only[bq,decide_eq_false_iff_not] at h1;have:=iS hL s (.sc j l);simp only[at_,bX,dc] at this;simp only[at_,he,if_neg h1];exact this
  |c d j=>
    simp only[at_,blkH];by_cases e:d=b
    ·subst e;simp only[if_true,hb];simp only[cM,decide_true,MU,MV,decide_eq_false_iff_not] at h2;rw[kL (by rw[cn,cn,hk]; exact oS),cn,hk];by_cases c1:j<off
     ·rw[if_pos c1,dV]
     ·rw[if_neg c1,if_neg (by omega),dV]
    ·simp only[if_neg e];cases aN s.H d with
     |none=>rfl
     |some ds=>simp[dV]
 have atb:∀j,off<=j->j<off+k->at_ s' (.c b j)=(v.cells[j-off]?).map (cC (ir i b off)):=by
  intro j h1 h2;simp only[at_,blkH,if_true];rw[kL (by rw[cn,cn,hk]; exact oS),cn,hk,if_neg (by omega),if_pos h2,dV]
 have ati:∀q,bq i q=true->aq s' q=none:=by
  intro q hq;cases q with
  |s j=>simp only[bq,decide_eq_true_eq] at hq; subst hq; unfold aq; simp[at_,he]
  |sc j l=>simp only[bq,decide_eq_true_eq] at hq; subst hq; unfold aq; simp[at_,he]
  |c d j=>simp[bq] at hq
 have cellAt:∀j d,v.cells[j]?=some d->at_ s (qZ i v j)=some d:=fun j d hd=>by
  have:=Uj (s:=s) (i:=i) (j:=j) (d:=d) (by rw[hv]; exact hd)
  rwa [hv] at this
 have own:∀q k' xs,aq s' q=some (k',xs)->aq s (u q)=some (k',xs):=by
  intro q k' xs e
  have hqi:bq i q=false:=by
   cases e2:bq i q with
   |true=>rw[ati q e2] at e; cases e
   |false=>rfl
  have e':=bR.1 e;cases hq:cM b off k q with
  |false=>
    rw[ZM q hq];rw[atq q hqi hq] at e';cases ha:at_ s q with
    |none=>rw[ha] at e'; cases e'
    |some x=>
      rw[ha] at e';simp only[bV,af] at e';rw[vF hL] at e';subst e';exact bR.2 ha
  |true=>
    cases q with
    |s j=>simp[cM] at hq
    |sc j l=>simp[cM] at hq
    |c d j=>
      simp only[cM,ae,decide_eq_true_eq] at hq;obtain⟨rfl,h1,h2⟩:=hq;rw[hu1 j h1 h2];rw[atb j h1 h2] at e';cases ha:v.cells[j-off]? with
      |none=>rw[ha] at e'; cases e'
      |some x=>
        rw[ha] at e';simp only[bV,af] at e';rw[vF hL] at e';subst e';exact bR.2 (cellAt _ _ ha)
 have aeg:(∃ds,v=.agg ds)\/(ja v/\v.cells=[v]/\∀ j,qZ i v j=.s i):=by
  by_cases ha:∃ds,v=.agg ds
  ·exact .inl ha
  ·have hn:ja v:=fun ds e=>ha ⟨ds,e⟩;refine .inr ⟨hn,?_,fun j=>?_⟩
   ·cases v<;>first|rfl|exact absurd rfl (hn _)
   ·cases v<;>first|rfl|exact absurd rfl (hn _)
 -- an owner that was, where it is now
 have Tn:∀p,(aq s p).isSome->cM b off k p=false->aq s' (gL i b off p)=aq s p/\u (gL i b off p)=p:=by
  intro p hp hc;obtain⟨⟨k',xs⟩,e⟩:=aM.1 hp;have e':=bR.1 e;cases WR:bq i p with
  |false=>
    have hm:gL i b off p=p:=by
     cases p with
     |s j=>simp only[bq,decide_eq_false_iff_not] at WR; simp[gL,WR]
     |sc j l=>simp only[bq,decide_eq_false_iff_not] at WR; simp[gL,WR]
     |c d j=>rfl
    rw[hm];refine⟨?_,ZM p hc⟩;rw[<-gK hL s p];exact gJ (by rw[atq p WR hc,iS hL])
  |true=>
    cases p with
    |s j=>
      simp only[bq,decide_eq_true_eq] at WR;subst WR;simp only[at_,af] at e';rw[hv] at e';subst e';have hk1:k=1:=by rw[<-hk]; rfl
      subst hk1;have hm:gL j b off (.s j)=.c b off:=by simp[gL]
      rw[hm,hu1 off (aG _) (by omega)];refine⟨?_,rfl⟩;rw[e];exact bR.2 (by rw[atb off (aG _) (by omega)]; simp[AV.cells,cC])
    |sc j l=>
      simp only[bq,decide_eq_true_eq] at WR;subst WR;simp only[at_,hv] at e';split at e'
      case h_2=>cases e'
      rename_i ds;have hl:l<k:=by rw[<-hk]; exact aj e'
      have hm:gL j b off (.sc j l)=.c b (off+l):=by simp[gL]
      rw[hm,hu1 (off+l) (by omega) (by omega)];refine⟨?_,by simp[qZ]⟩;rw[e];exact bR.2 (by rw[atb (off+l) (by omega) (by omega)]; simp[AV.cells,e',cC])
    |c d j=>simp[bq] at WR
 have back:∀q,(aq s' q).isSome->gL i b off (u q)=q:=by
  intro q hq
  have hqi:bq i q=false:=by
   cases e2:bq i q with
   |true=>rw[ati q e2] at hq; cases hq
   |false=>rfl
  cases hc:cM b off k q with
  |false=>
    rw[ZM q hc];cases q with
    |s j=>simp only[bq,decide_eq_false_iff_not] at hqi; simp[gL,hqi]
    |sc j l=>simp only[bq,decide_eq_false_iff_not] at hqi; simp[gL,hqi]
    |c d j=>rfl
  |true=>
    cases q with
    |s j=>simp[cM] at hc
    |sc j l=>simp[cM] at hc
    |c d j=>
      simp only[cM,ae,decide_eq_true_eq] at hc;obtain⟨rfl,h1,h2⟩:=hc;rw[hu1 j h1 h2];rcases aeg with⟨ds,rfl⟩|⟨_,MI,hp1⟩
      ·simp only[qZ,gL,if_true];rw[show off+(j-off)=j by omega]
      ·rw[hp1];have:k=1:=by rw[<-hk,MI]; rfl
       simp only[gL,if_true];rw[show off=j by omega]
 have hlen:s'.H.length=s.H.length:=by rw[hH,cO,fe]
 obtain⟨N',dX,hN⟩:∃N':Names,N'.β=N.β/\∀ q,N'.ν q=N.ν (u q):=⟨⟨N.β,fun q=>N.ν (u q)⟩,rfl,fun _=>rfl⟩;have kM:∀p,(aq s p).isSome->cM b off k p=false->N'.ν (gL i b off p)=N.ν p:=fun p hp hc=>by rw[hN,(Tn p hp hc).2]
 have XR:∀{r x},at_ s r=some x->(∀p∈aI x,N'.ν (gL i b off p)=N.ν p)/\ct (aq s') s'.H.length (cC (ir i b off) x):=by
  intro r x hx;refine⟨fun p hp=>kM p (h.du hx p hp) (hC r x hx p hp),?_⟩;rw[hlen];exact Ky hg x (fun p hp=>(Tn p (h.du hx p hp) (hC r x hx p hp)).1) (h.zA hx)
 have so:∀{q},(aq s' q).isSome->(aq s (u q)).isSome:=by
  intro q hq;obtain⟨⟨k',xs⟩,e⟩:=aM.1 hq;rw[own q k' xs e]; rfl
 have sb:∀{d},(aN s'.H d).isSome->(aN s.H d).isSome:=by
  intro d hd;rw[blkH] at hd;by_cases e:d=b
  ·subst e; rw[hb]; rfl
  ·rw[if_neg e] at hd;cases e2:aN s.H d with
   |none=>rw[e2] at hd; cases hd
   |some _=>rfl
 refine⟨N',dX,⟨fun j=>?_,fun j=>?_,hh,fun q k' xs e=>?_,fun d ds e=>?_,fun p q n e1 e2 e3 e4=>?_,fun d q e1 e2 e3=>?_,fun d e e1 e2 e3=>?_⟩⟩
 ·rw[he];by_cases FY:j=i
  ·rw[if_pos FY]; exact .any _ _
  ·rw[if_neg FY,ht j FY];rw[HT (N:=N) (i:=j) dX hg (by rw[hN,ZM _ rfl]) (fun l=>by rw[hN,ZM _ rfl]) (XR (r:=.s j) rfl).1];exact ad.rep (h.env j)
 ·rw[he];by_cases FY:j=i
  ·rw[if_pos FY]; trivial
  ·rw[if_neg FY]; exact (XR (r:=.s j) rfl).2
 ·have e2:=own q k' xs e;rw[hN];refine (h.own _ k' xs e2).same fun n hn=>?_;rw[df,if_neg];rintro⟨e3,_⟩;exact h.bx b (u q) (by rw[hb]; rfl) (by rw[e2]; rfl) (by rw[hn,e3])
 ·rw[blkH] at e;by_cases hd:d=b
  ·subst hd;rw[if_pos rfl] at e;cases e;refine⟨iX as off (jW N i v).cells,by rw[dX,df,if_pos ⟨rfl,halt⟩],?_,fun j x hx=>?_⟩
   ·rw[fO (by rw[tc1,hk]; omega),fO (by rw[cn,cn,hk]; omega),cn,hasl]
   ·rw[kL (by rw[cn,cn,hk]; exact oS),cn,hk] at hx
    have outside:(cK (ir i d off) cs)[j]?=some x->cM d off k (.c d j)=false->(∀hj:True,(iX as off (jW N i v).cells)[j]?=as[j]?)->ct (aq s') s'.H.length x/\∃ a',(iX as off (jW N i v).cells)[j]?=some a'/\Le (iJ N' (.c d j) x) a':=by
     intro hx hc hov;rw[dV] at hx;cases ED:cs[j]? with
     |none=>rw[ED] at hx; cases hx
     |some x0=>
       rw[ED] at hx;simp at hx;subst hx;obtain⟨as2,g1,g2,g3⟩:=h.box d cs hb;rw[has] at g1; cases g1;obtain⟨_,a',a1,a2⟩:=g3 j x0 ED;have tL:=XR (r:=.c d j) (x:=x0) (by rw[v8 hb]; exact ED);refine⟨tL.2,a',by rw[hov trivial]; exact a1,?_⟩;rw[xZ (N:=N) (r:=.c d j) dX hg (fun _ _ _=>by rw[hN,ZM _ hc]) tL.1];exact a2
    split at hx
    ·rename_i c1;exact outside hx (by simp[cM]; omega) (fun _=>by rw[kL (by rw[tc1,hk]; omega),if_pos c1])
    ·split at hx
     ·rename_i c1 c2;rw[dV] at hx;cases ED:v.cells[j-off]? with
      |none=>rw[ED] at hx; cases hx
      |some x0=>
        rw[ED] at hx;simp at hx;subst hx;have tL:=XR (cellAt _ _ ED);refine⟨tL.2,iJ N (qZ i v (j-off)) x0,?_,?_⟩
        ·rw[kL (by rw[tc1,hk]; omega),if_neg c1,if_pos (by rw[tc1,hk]; exact c2),tc2 _ _ ED];cases v<;>rfl
        ·rw[xZ (N:=N) (r:=qZ i v (j-off)) dX hg (fun _ _ _=>by rw[hN,hu1 j (by omega) c2]) tL.1];exact Le.refl _
     ·rename_i c1 c2;exact outside hx (by simp[cM]; omega) (fun _=>by rw[kL (by rw[tc1,hk]; omega),if_neg c1,if_neg (by rw[tc1,hk]; exact c2)])
  ·rw[if_neg hd] at e;cases w8:aN s.H d with
   |none=>rw[w8] at e; cases e
   |some ds0=>
     rw[w8] at e;simp at e;subst e;obtain⟨as2,g1,g2,g3⟩:=h.box d ds0 w8;refine⟨as2,?_,by rw[cn]; exact g2,fun j x hx=>?_⟩
     ·rw[dX,df,if_neg]
      ·exact g1
      ·rintro⟨e3,_⟩;exact hd (h.bi d b (by rw[w8]; rfl) (by rw[hb]; rfl) e3)
     ·rw[dV] at hx;cases ED:ds0[j]? with
      |none=>rw[ED] at hx; cases hx
      |some x0=>
        rw[ED] at hx;simp at hx;subst hx;obtain⟨_,a',a1,a2⟩:=g3 j x0 ED;have tL:=XR (r:=.c d j) (x:=x0) (by rw[v8 w8]; exact ED);refine⟨tL.2,a',a1,?_⟩;rw[xZ (N:=N) (r:=.c d j) dX hg (fun _ _ _=>by rw[hN,ZM _ (by simp[cM,hd])]) tL.1];exact a2
 ·rw[hN] at e3 e4;have:=h.inj _ _ n (so e1) (so e2) e3 e4;rw[<-back p e1,this,back q e2]
 ·rw[hN,dX] at e3;exact h.bx d _ (sb e1) (so e2) e3
 ·rw[dX] at e3;exact h.bi d e (sb e1) (sb e2) e3
end
end Go.Bm

/- Stores. -/
namespace Go.Bm
open Go.Am
section
variable {P:Program} {X:Nat->Prop} {φ φ':cX} {w w':World} {N N':Names} {s s' s1:St} {Ha Ha':Heap} {t t':Nat->Value} {B:Nat->Nat} {base:Nat} {v va:AV} {v':Value} {c:dM} {o:Oper} {a:Act} {kd:Kd}
theorem aaq {op:Op} {k:Nat} {x y:E} (h:cG P op (.st k x y)=true):∃ty xo yo,op=.store ty xo yo/\nd P ty k=true/\cH xo x=true/\cH yo y=true:=by
 unfold cG at h;split at h<;>simp_all
 exact⟨_,_,_,⟨rfl,rfl,rfl⟩,h.1.1,h.1.2,h.2⟩
theorem Gk (h:dY X φ w N s Ha t) {i:Nat} (hl:bm (get s.env i).cells=true):bm (jW N i (get s.env i)).cells=true:=by
 obtain⟨h1,h2⟩:=wG N i (get s.env i);refine tX fun d hd=>?_;obtain⟨j,hj⟩:=bt hd;obtain⟨x,hx⟩:=aS (l:=(get s.env i).cells) (i:=j) (by have:=aj hj; omega);rw[h2 j x hx] at hj;cases hj;have hxl:=wh hl x (aU hx);have cW:=Cz (vw (h.Cx i)) x (aU hx);by_cases ho:∃k xs,x=.own k xs
 ·obtain⟨k,xs,rfl⟩:=ho;simp only[iJ,qI];split<;>rfl
 ·have:=Iw h hxl cW;cases x<;>first|exact this|exact absurd ⟨_,_,rfl⟩ ho
theorem BW:∀{ds:List AV},bF ds=false->∀x∈ds,∀k xs,x≠.own k xs
 |[],_,x,hx=>by simp at hx
 |y::r,h,x,hx=>by
   intro k xs e;subst e;obtain⟨j,hj⟩:=bt hx;exact yO h j k xs hj
theorem C9 {b off k:Nat} {cs:List AV} (hb:aN s.H b=some cs) (ho:bF ((cs.drop off).take k)=false) {p:Rt} (hp:(aq s p).isSome):cM b off k p=false:=by
 cases p with
 |s j=>rfl
 |sc j l=>rfl
 |c d j=>
   cases e:cM b off k (.c d j) with
   |false=>rfl
   |true=>
     simp only[cM,ae,decide_eq_true_eq] at e;obtain⟨rfl,h1,h2⟩:=e;obtain⟨⟨k',xs⟩,e2⟩:=aM.1 hp;have e3:=bR.1 e2;rw[v8 hb] at e3;refine absurd rfl (BW ho (.own k' xs) ?_ k' xs);refine aU (i:=j-off) ?_;rw[bC,if_pos (by omega),aO,show off+(j-off)=j by omega];exact e3
theorem Kx (hm:P.follows .mixedOrders=true) (h:SB X φ w B base s (tm a)) (hg:Am.dD (ga c) X φ w) {k b off:Nat} {x y:E} {f:Fq} (hk:cG P o.op (kz (.st k x y))=true) (yI:aR c s.env x=.ptr b off) (hs:xI s b off k (aR c s.env y)=some (s',f)):kG P X φ w B base s' .undef o a:=by
 obtain⟨N,Ha,h,hbB,RH⟩:=h;obtain⟨ty,xo,yo,eI,mO,c1,c2⟩:=aaq hk;have hx:=cc (c:=c) (cA:=ga c) h rfl c1;have hy:=cc (c:=c) (cA:=ga c) h rfl c2;have he:oZ X φ w (ze N s.env) a.tmps:=fun i=>by rw[mF]; exact h.env i
 have rx:=bL (a:=a) he hg c1;have ry:=bL (a:=a) he hg c2;rw[hx.ev,yI] at rx;rw[hy.evQ] at ry;simp only[fS,cu] at rx;have hpo:dP X φ w N.β s.H.length s (aR c s.env y) (tm a) (a.eval yo):=dP.quiet h ⟨fun _ _=>rfl,aG _⟩ hy.ok hy.EO ry;generalize aR c s.env y=v at *;unfold xI at hs;split at hs
 case h_2=>cases hs
 rename_i cs dB;split at hs
 case isFalse=>cases hs
 rename_i W8;obtain⟨q1,q2,q3⟩:=W8;have Z3:=dp dB;split at hs
 ·split at hs
  case h_2=>cases hs
  rename_i F2;split at hs
  case h_2=>cases hs
  rename_i s2 hh;simp at hs;obtain⟨rfl,_⟩:=hs;obtain⟨nY,FE,ad1⟩:=SB.ye b k off (hpo.put eW F2);generalize ye b off k ⟨put s.env eW v,s.H⟩=s1 at hh FE;obtain⟨N1,MM,gE,zW,hl1⟩:=FE;have hL:=Rq eW b off;unfold rM at hh;split at hh
  case h_2=>cases hh
  rename_i cs2 LF;split at hh
  case isFalse=>cases hh
  rename_i F1;obtain⟨r1,r2,r3,r4⟩:=F1;simp at hh;subst hh;simp only[bX,eZ,dc] at LF r1 r2 r3 r4 ⊢;cases W7:aN s1.H b with
  |none=>rw[W7] at LF; cases LF
  |some cs1=>
    rw[W7] at LF;simp at LF;subst LF;rw[Ec hL] at r1 r4;rw[cn] at r1 r2
    have wZ:bm (get s1.env eW).cells=true:=by
     refine tX fun d hd=>?_;obtain⟨j,hj⟩:=bt hd;have:=wh r4 (cC (ir eW b off) d) (aU (i:=j) (by rw[dV,hj]; rfl));cases d<;>first|rfl|exact this
    have gV:bF ((cs1.drop off).take k)=false:=by
     have key:∀{l:List AV},bF (cK (ir eW b off) l)=false->bF l=false:=by
      intro l
      induction l with
      |nil=>intro _; rfl
      |cons z r ih=>
        intro h;simp only[cK] at h;cases z<;>simp[cC,ir,bF] at h ⊢<;>exact ih h
     apply key
     have:(cK (ir eW b off) cs1).drop off=cK (ir eW b off) (cs1.drop off):=by
      apply dq; intro j; rw[aO,dV,dV,aO]
     rw[this] at r3
     have h2:(cK (ir eW b off) (cs1.drop off)).take k=cK (ir eW b off) ((cs1.drop off).take k):=by
      apply dq; intro j; rw[bC,dV,dV,bC]; split<;>rfl
     rw[h2] at r3;exact r3
    obtain⟨as,g1,g2,g3⟩:=gE.box b cs1 W7;have hβ1:N1.β b=N.β b:=zW b Z3;refine kG.ghost ad1 ?_;have cW:=VN (P:=P) eI gE.heap g1 mO (by rw[hβ1]; exact ad1.rep rx) (by have:=gE.env eW; simp only[if_true] at this; exact this) (by rw[(wG N1 eW _).1]; exact r1) (by omega) (Gk gE wZ);refine kG.of cW fun v' w' φ' r hh ad=>?_
    obtain⟨N',e1,M8⟩:=gE.aa0 (i:=eW) (b:=b) (off:=off) (k:=k) (s':=⟨put (jQ (ir eW b off) s1.env) eW .any,(fH (ir eW b off) s1.H).set b (some (iX (cK (ir eW b off) cs1) off (cC (ir eW b off) (get s1.env eW)).cells))⟩) (t':=tm a)
     W7 g1 r1 r2 (fun rr z hz p hp=>C9 W7 gV (gE.du hz p hp)) ad hh (fun j=>by simp only[bz,dc]) rfl (fun j hj=>by simp[hj])
    refine dP.quiet M8 ⟨fun d hd=>?_,?_⟩ trivial trivial r
    ·rw[e1,zW d (by omega)]; exact hbB d hd
    ·simp only[cO,fe]; omega
 ·rename_i abX;simp at hs;obtain⟨rfl,_⟩:=hs;obtain⟨i,hi,_⟩:=G7 s.env [];obtain⟨N1,MM,gE,zW,hl1⟩:=hpo.put i hi;have hio:bH (get s.env i)=false:=by rw[hi]; rfl
  obtain⟨as,g1,g2,g3⟩:=gE.box b cs dB;have hβ1:N1.β b=N.β b:=zW b Z3;have gi:get (put s.env i v) i=v:=by rw[bz,if_pos rfl]
  have wZ:bm (get (put s.env i v) i).cells=true:=by rw[gi]; exact q3
  have KE:∀{p},(aq s p).isSome->gL i b off p=p:=by
   intro p hp;have:=tU hio hp;cases p with
   |s j=>simp only[bq,decide_eq_false_iff_not] at this; simp[gL,this]
   |sc j l=>simp only[bq,decide_eq_false_iff_not] at this; simp[gL,this]
   |c d j=>rfl
  have cW:=VN (P:=P) eI gE.heap g1 mO (by rw[hβ1]; exact rx) (by have:=gE.env i; simp only[if_true] at this; exact this) (by rw[(wG N1 i _).1,gi]; exact q1) (by omega) (Gk gE wZ);refine kG.of cW fun v' w' φ' r hh ad=>?_
  have hnoC:∀r z,at_ ⟨put s.env i v,s.H⟩ r=some z->∀p∈aI z,cM b off k p=false:=by
   intro r z hz p hp;simp only[ae,not_and,Bool.not_eq_true] at abX;cases hod:bF ((cs.drop off).take k) with
   |false=>exact C9 (s:=⟨put s.env i v,s.H⟩) dB hod (gE.du hz p hp)
   |true=>
     have hn:=abX hod;simp only[Fj,dZ] at hn;cases r with
     |s j=>
       simp only[at_,bz,af] at hz;subst hz;split at hp
       ·exact jK hn.1 p hp
       ·exact q7 hn.2.1 j p hp
     |sc j l=>
       simp only[at_,bz] at hz;split at hz
       ·rename_i ds nP;split at nP
        ·subst nP;exact jK hn.1 p (by simp only[aI]; exact kC hz hp)
        ·exact q7 hn.2.1 j p (by rw[nP]; simp only[aI]; exact kC hz hp)
       ·cases hz
     |c d l=>
       simp only[at_] at hz;split at hz
       ·rename_i ds nP;exact tV hn.2.2 d ds nP p (kC hz hp)
       ·cases hz
  obtain⟨N',e1,M8⟩:=gE.aa0 (i:=i) (b:=b) (off:=off) (k:=k) (s':=⟨s.env,s.H.set b (some (iX cs off v.cells))⟩) (t':=tm a) dB g1 (by rw[gi]; exact q1) q2 hnoC ad hh
   (fun j=>by
    simp only[bz];by_cases hj:j=i
    ·rw[if_pos hj,hj]; exact hi
    ·rw[if_neg hj,if_neg hj,rG (sX i b off) _ (fun p hp=>KE (h.du (r:=.s j) rfl p hp))])
   (by
    simp only[gi]
    rw[CA (sX i b off) s.H (fun d ds hd p hp=>KE (by
     obtain⟨j,z,h1,h2⟩:=Jb hp;exact h.du (r:=.c d j) (by rw[v8 hd]; exact h1) p h2)),
     qM (sX i b off) cs (fun p hp=>KE (by
     obtain⟨j,z,h1,h2⟩:=Jb hp;exact h.du (r:=.c b j) (by rw[v8 dB]; exact h1) p h2)),
     rG (sX i b off) v (fun p hp=>KE (AH v hpo.ok p hp))])
   (fun j hj=>by simp[hj])
  refine dP.quiet M8 ⟨fun d hd=>?_,?_⟩ trivial trivial r
  ·rw[e1,zW d (by omega)]; exact hbB d hd
  ·simp only[cO]; omega
end
end Go.Bm

/- Maps, whose entries are a box of plain values. -/
namespace Go.Bm
open Go.Am
theorem fR:∀{cs:List AV},eC cs=true->∀(i:Nat) (c:AV),cs[i]?=some c->pl c=true
 |x::r,h,0,c,hc=>by simp only[eC,ae] at h; simp at hc; subst hc; exact h.1
 |x::r,h,i+1,c,hc=>by simp only[eC,ae] at h; exact fR h.2 i c (by simpa using hc)
theorem tB {x:AV} (h:pl x=true):bH x=false:=by
 cases x<;>first|rfl|(simp[pl] at h; done)|skip
 rename_i cs;simp only[pl] at h;simp only[bH]
 induction cs with
 |nil=>rfl
 |cons y r ih=>
   simp only[eC,ae] at h;have h1:=h.1;cases y<;>first|exact ih h.2|(simp[pl] at h1; done)
theorem QM:∀{xs ys:List AV},eC xs=true->eC ys=true->eC (xs++ys)=true
 |[],_,_,h=>h
 |x::r,ys,h,k=>by simp only[List.cons_append,eC,ae] at h ⊢; exact⟨h.1,QM h.2 k⟩
theorem QL:∀{xs:List AV} {i:Nat} {y:AV},eC xs=true->pl y=true->eC (xs.set i y)=true
 |[],_,_,_,_=>rfl
 |x::r,0,y,h,k=>by simp only[List.set_cons_zero,eC,ae] at h ⊢; exact⟨k,h.2⟩
 |x::r,i+1,y,h,k=>by simp only[List.set_cons_succ,eC,ae] at h ⊢; exact⟨h.1,QL h.2 k⟩
theorem _root_.Go.Am.bD.Av {R:Addr->Value->Prop} {φ:cX} {k b off len:Nat} {v:Value} (r:bD R φ (.sl k b off len) v) {g sz:Nat} (e:φ[b]?=some (some (g,sz))):0<sz:=by
 cases r with
 |sl _ _ _ _ _ a cap hb hc h=>have:=(h g sz e).2; omega
theorem _root_.Go.Am.bD.YS {R:Addr->Value->Prop} {φ:cX} {b off:Nat} {v:Value} (r:bD R φ (.ptr b off) v) {g sz:Nat} (e:φ[b]?=some (some (g,sz))):0<sz:=by
 cases r with
 |ptr _ _ _ a hb h=>exact (h g sz e).2
theorem less {X:Nat->Prop} {φ:cX} {w:World} {Ha:Heap} (h:bO X φ w Ha) {n:Nat} {cs cs':List AV} (hb:aN Ha n=some cs) (hl:cs'.length<=cs.length) (hs:(∀g sz,φ[n]?=some (some (g,sz))->0<sz)\/cs'.length=cs.length) (hc:∀(i:Nat) (d:AV),cs'[i]?=some d->∃a,cs[i]?=some a/\Le d a):bO X φ w (Ha.set n (some cs')):=by
 refine⟨by simp[h.len],h.FK,fun b ds w8=>?_,fun b w8=>?_,h.inj⟩
 ·rw[aQ] at w8;split at w8
  ·rename_i e;subst e;split at w8
   ·simp at w8;subst w8;obtain⟨g,sz,arr,e,g1,g2,g3,g4,g5,g6⟩:=h.at hb;refine⟨g,sz,arr,e,g1,g2,g3,⟨by omega,fun z=>hs.elim (fun hs=>absurd (hs g sz g1) (by omega)) (fun hs=>hs.trans (g4.2 z))⟩,g5,fun i d hd=>?_⟩;obtain⟨a,ha,hle⟩:=hc i d hd;obtain⟨u,u1,u2⟩:=g6 i a ha;exact⟨u,u1,hle _ _ _ u2⟩
   ·cases w8
  ·exact h.live b ds w8
 ·rw[aQ] at w8;split at w8
  ·split at w8<;>simp at w8
  ·exact h.dead b w8
theorem AE {e:Env} {H:Heap} {d j:Nat} (hp:∀cs,aN H d=some cs->eC cs=true):aq ⟨e,H⟩ (.c d j)=none:=by
 cases ho:aq ⟨e,H⟩ (.c d j) with
 |none=>rfl
 |some y=>
   obtain⟨k,xs⟩:=y;have h1:=bR.1 ho;simp only[at_] at h1;split at h1
   ·rename_i ds hd;have:=fR (hp ds hd) j _ h1;simp[pl] at this
   ·cases h1
theorem qp (N:Names) (p:Rt) {z:AV} (hz:pl z=true):iJ N p z=z:=by
 cases z<;>first|exact kg N _ hz|(simp[pl] at hz; done)
theorem wH (N:Names) {z:AV} (hz:pl z=true):fS N z=z:=by
 cases z<;>first|exact kg N _ hz|(simp[pl] at hz; done)
theorem dY.HY {X:Nat->Prop} {φ nY:cX} {w w1:World} {N:Names} {s:St} {Ha Ha':Heap} {t:Nat->Value} (h:dY X φ w N s Ha t) {b:Nat} {cs cs':List AV} (hb:aN s.H b=some cs) (RC:eC cs=true) (NN:eC cs'=true) (ad:eT φ w nY w1) (hh:bO X nY w1 Ha') (Cj:aN Ha' (N.β b)=some cs') (Bb:∀m,m≠N.β b->aN Ha' m=aN Ha m):dY X nY w1 N ⟨s.env,s.H.set b (some cs')⟩ Ha' t:=by
 have hoa:∀p,aq ⟨s.env,s.H.set b (some cs')⟩ p=aq s p:=by
  intro p;cases p with
  |s i=>rfl
  |sc i j=>rfl
  |c d j=>
    by_cases e:d=b
    ·subst e;rw[AE (e:=s.env) (H:=s.H.set d (some cs')) (d:=d) (j:=j) fun ds hd=>by rw[df,if_pos ⟨rfl,dp hb⟩] at hd; cases hd; exact NN];exact (AE (e:=s.env) (H:=s.H) (d:=d) (j:=j) fun ds hd=>by rw[hb] at hd; cases hd; exact RC).symm
    ·simp only[aq,at_];rw[df,if_neg (fun h=>e h.1)]
 have hfe:aq ⟨s.env,s.H.set b (some cs')⟩=aq s:=funext hoa;have hlen:(s.H.set b (some cs')).length=s.H.length:=by simp
 have hblk:∀d ds,aN (s.H.set b (some cs')) d=some ds->(d=b/\ds=cs')\/(d≠b/\aN s.H d=some ds):=by
  intro d ds e;by_cases e2:d=b
  ·subst e2;rw[df,if_pos ⟨rfl,dp hb⟩] at e;cases e;exact .inl ⟨rfl,rfl⟩
  ·rw[df,if_neg (fun h=>e2 h.1)] at e;exact .inr ⟨e2,e⟩
 have WO:∀d,(aN (s.H.set b (some cs')) d).isSome->(aN s.H d).isSome:=by
  intro d e;obtain⟨ds,hd⟩:=aM.1 e;rcases hblk d ds hd with⟨rfl,_⟩|⟨_,h2⟩
  ·rw[hb]; rfl
  ·rw[h2]; rfl
 have IL:(aN s.H b).isSome:=by rw[hb]; rfl
 refine⟨fun i=>ad.rep (h.env i),fun i=>?_,hh,fun p k xs e=>?_,fun d ds e=>?_,fun p q n e1 e2=>?_,fun d p e1 e2=>?_,fun d e0 e1 e2 e3=>?_⟩
 ·rw[hfe];show ct _ (s.H.set b (some cs')).length _;rw[hlen]; exact h.Cx i
 ·rw[hoa] at e;have ho:=h.own p k xs e;cases hn:N.ν p with
  |none=>rw[hn] at ho; exact ho
  |some m=>
    rw[hn] at ho;obtain⟨ds,d1,d2⟩:=ho;have tn:m≠N.β b:=fun e2=>h.bx b p IL (by rw[e]; rfl) (by rw[hn,e2]);exact⟨ds,by rw[Bb _ tn]; exact d1,d2⟩
 ·rcases hblk d ds e with⟨rfl,rfl⟩|⟨hd,BS⟩
  ·exact⟨_,Cj,rfl,fun j d hd=>⟨uE _ (fR NN j d hd),d,hd,by rw[qp _ _ (fR NN j d hd)]; exact Le.refl _⟩⟩
  ·obtain⟨as2,x1,x2,x3⟩:=h.box d ds BS;have tn:N.β d≠N.β b:=fun h2=>hd (h.bi d b (by rw[BS]; rfl) IL h2);refine⟨as2,by rw[Bb _ tn]; exact x1,x2,fun j d' hd'=>?_⟩;obtain⟨y1,y2⟩:=x3 j d' hd';refine⟨?_,y2⟩;rw[hfe];show ct _ (s.H.set b (some cs')).length _;rw[hlen]; exact y1
 ·rw[hoa] at e1 e2; exact h.inj p q n e1 e2
 ·rw[hoa] at e2; exact h.bx d p (WO d e1) e2
 ·exact h.bi d e0 (WO d e1) (WO e0 e2) e3

section
variable {P:Program} {X:Nat->Prop} {φ φ':cX} {w w':World} {N N':Names} {s s' s1:St} {Ha Ha':Heap} {t t':Nat->Value} {B:Nat->Nat} {base:Nat} {v va:AV} {v':Value} {c:dM} {o:Oper} {a:Act} {kd:Kd} {call:Nat->List AV->Heap->Option (AV × Heap)}
theorem dY.QX (h:dY X φ w N s Ha t) {p:Rt} {k n:Nat} {xs:List AV} (hp:aq s p=some (k,xs)) (hn:N.ν p=some n) {g sz:Nat} (e:φ[n]?=some (some (g,sz))):0<sz:=by
 have ha:=bR.1 hp;cases p with
 |s i=>
   simp only[at_,af] at ha;have r:=h.env i;rw[ha] at r;simp only[jW,iJ,qI,hn] at r;exact r.Av e
 |sc i j=>
   simp only[at_] at ha;split at ha
   case h_2=>cases ha
   rename_i cs dB;have r:=h.env i;rw[dB] at r;simp only[jW] at r;generalize t i=v at r;cases r with
   |agg _ _ vs hl hh=>
     obtain⟨u,hu⟩:=bP (l:=vs) (i:=j) (by have:=aj ha; rw[fN] at hl; omega);have r2:=hh j _ u (by rw[fy,ha]; rfl) hu;simp only[eS,iJ,qI,hn] at r2;exact r2.Av e
 |c b j=>
   simp only[at_] at ha;split at ha
   case h_2=>cases ha
   rename_i cs dB;obtain⟨as,a1,a2,a3⟩:=h.box b cs dB;obtain⟨_,a',b1,b2⟩:=a3 j _ ha;obtain⟨_,_,_,_,_,_,_,_,_,g6⟩:=h.heap.at a1;obtain⟨u,_,u2⟩:=g6 j a' b1;have r2:=b2 _ _ _ u2;simp only[iJ,qI,hn] at r2;exact r2.Av e
theorem dY.abQ (h:dY X φ w N s Ha t) {b:Nat} {es:List AV} (hb:aN s.H b=some es) (hp:eC es=true):∃MM,aN MM (N.β b)=some es/\dY X φ w N s MM t:=by
 obtain⟨as,b1,b2,b3⟩:=h.box b es hb
 have hh:bO X φ w (Ha.set (N.β b) (some es)):=less h.heap b1 (by omega) (.inr (by omega)) fun i d hd=>by
  obtain⟨_,a',a1,a2⟩:=b3 i d hd;rw[qp N _ (fR hp i d hd)] at a2;exact⟨a',a1,a2⟩
 have Cj:aN (Ha.set (N.β b) (some es)) (N.β b)=some es:=by rw[df,if_pos ⟨rfl,dp b1⟩]
 have h2:=h.HY hb hp hp (.refl φ w) hh Cj fun m hm=>by rw[df,if_neg (fun e=>hm e.1)]
 have he:s.H.set b (some es)=s.H:=by
  apply dq;intro i;rw[aQ];split
  ·rename_i e; subst e; rw[if_pos (dp hb)]; exact (q6 hb).symm
  ·rfl
 rw[he] at h2;exact⟨_,Cj,h2⟩
theorem KM {K:Kt} {x:AV}:∀{cs:List AV} {i:Nat} {p:Nat × AV},gM K x cs i=some (some p)->eC cs=true->pl p.2=true
 |[],_,_,h,_=>by simp[gM] at h
 |c::cs,i,p,h,hp=>by
   obtain⟨k',v,rfl,h2⟩:=yA h;simp only[eC,pl,ae] at hp;rcases h2 with⟨_,h3⟩|⟨_,h3⟩
   ·simp only[af] at h3; subst h3; exact hp.1.2.1
   ·exact KM h3 hp.2
theorem We {K:Kt} {x:AV} {cs:List AV} {ok:Bool} {z:AV} {r:Option (Nat × AV)} (hf:gM K x cs 0=some r) (hp:eC cs=true) (hz:pl z=true):pl (Tv ok z r)=true:=by
 cases r with
 |none=>cases ok<;>simp[Tv,pl,eC,hz]
 |some p=>
   have:=KM hf hp;cases ok<;>simp[Tv,pl,eC,this]
theorem Wf {c:dM} {call:Nat->List AV->Heap->Option (AV × Heap)} {s s1:St} {K:Kt} {ok:Bool} {z v:AV} {x k:E} {f:Fq} (h:eO c call s (.xz K ok z x k)=some (v,s1,f)) :
  ∃ b es r,mapOf (aR c s.env x)=some b/\aN s.H b=some es/\(eC es=true/\(pl (aR c s.env k)=true/\wV K (aR c s.env k) (aR c s.env k)=some true))/\gM K (aR c s.env k) es 0=some r/\pl z=true/\v=Tv ok z r/\s1=s/\f=.rd [.c b 1]:=by
 simp only[eO] at h;split at h
 case h_2=>cases h
 rename_i b e1;split at h
 case h_2=>cases h
 rename_i es e2;split at h
 case isFalse=>cases h
 rename_i hp;split at h
 case h_2=>cases h
 rename_i r e3;split at h
 case isFalse=>cases h
 rename_i hz;simp only[af,aA] at h;obtain⟨rfl,rfl,rfl⟩:=h;exact⟨b,es,r,e1,e2,hp,e3,hz,rfl,rfl,rfl⟩
theorem V7 {c:dM} {call:Nat->List AV->Heap->Option (AV × Heap)} {s s1:St} {K:Kt} {v:AV} {x k y:E} {f:Fq} (h:eO c call s (.yu K x k y)=some (v,s1,f)) :
  ∃ b es r,mapOf (aR c s.env x)=some b/\aN s.H b=some es/\(eC es=true/\((pl (aR c s.env k)=true/\pl (aR c s.env y)=true)/\wV K (aR c s.env k) (aR c s.env k)=some true))/\gM K (aR c s.env k) es 0=some r/\v=.undef/\s1=⟨s.env,s.H.set b (some (yx (aR c s.env k) (aR c s.env y) es r))⟩/\f=.all:=by
 simp only[eO] at h;split at h
 case h_2=>cases h
 rename_i b e1;split at h
 case h_2=>cases h
 rename_i es e2;split at h
 case isFalse=>cases h
 rename_i hp;split at h
 case h_2=>cases h
 rename_i r e3;simp only[af,aA] at h;obtain⟨rfl,rfl,rfl⟩:=h;exact⟨b,es,r,e1,e2,hp,e3,rfl,rfl,rfl⟩
theorem XF {op:Op} {K:Kt} {ok:Bool} {z:AV} {x k:E} (h:cG P op (.xz K ok z x k)=true):(∃y,cH y x=true)/\∃ y,cH y k=true:=by
 cases op<;>simp[cG] at h
 exact⟨⟨_,h.1.2⟩,⟨_,h.2⟩⟩
theorem XE {op:Op} {K:Kt} {x k y:E} (h:cG P op (.yu K x k y)=true):(∃z,cH z x=true)/\(∃z,cH z k=true)/\∃ z,cH z y=true:=by
 cases op<;>simp[cG] at h
 exact⟨⟨_,h.1.1.2⟩,⟨_,h.1.2⟩,⟨_,h.2⟩⟩
theorem Ea (b:Nat):mapOf (nB b)=some b:=rfl
theorem UE (N:Names) (b:Nat):fS N (nB b)=nB (N.β b):=rfl
theorem VR (hm:P.follows .mixedOrders=true) (h:SB X φ w B base s (tm a)) (hg:Am.dD (ga c) X φ w) (hk:cG P o.op (kz .AO)=true):kG P X φ w B base ⟨s.env,s.H++[some []]⟩ (nB s.H.length) o a:=by
 obtain⟨N,Ha,h,hb,hl⟩:=h;refine kG.of (kD hm h hg hk (by simp only[kz,fi]; rfl)) fun v' w' φ' r hh ad=>?_;obtain⟨N',n1,n2,h'⟩:=h.Ir (zs:=[]) ad hh trivial (fun j k xs hj=>by simp at hj) rfl;refine dP.quiet h' ⟨fun b bY=>by rw[n1 b (by omega)]; exact hb b bY,by simp; omega⟩ ⟨trivial,⟨by simp[ct],trivial⟩,fun _=>⟨rfl,_,rfl⟩⟩ trivial ?_;simp only[u7,cu,kj,nB,n2];exact r
theorem VT (hm:P.follows .mixedOrders=true) (h:SB X φ w B base s (tm a)) (hg:Am.dD (ga c) X φ w) {K:Kt} {ok:Bool} {z:AV} {x k:E} (hk:cG P o.op (kz (.xz K ok z x k))=true) {b:Nat} {es:List AV} {r:Option (Nat × AV)}
  (hx:mapOf (aR c s.env x)=some b) (hb:aN s.H b=some es) (hp:eC es=true/\(pl (aR c s.env k)=true/\wV K (aR c s.env k) (aR c s.env k)=some true)) (hf:gM K (aR c s.env k) es 0=some r) (hz:pl z=true):kG P X φ w B base s (Tv ok z r) o a:=by
 obtain⟨N,Ha,h,BV⟩:=h;obtain⟨MM,q1,h1⟩:=h.abQ hb hp.1;obtain⟨⟨y1,k1⟩,y2,k2⟩:=XF hk;have ex:=cc (c:=c) (cA:=ga c) h1 rfl k1;have ek:=cc (c:=c) (cA:=ga c) h1 rfl k2;have hmv:=zM hx;have mX:pl (Tv ok z r)=true:=We hf hp.1 hz;refine kG.of (kD hm h1 hg hk (va:=Tv ok z r) (Ha':=MM) (fl:=.rd (N.β b)) ?_) fun v' w' φ' r' hh ad=>?_
 ·simp only[kz,fi,ex.ev,ek.ev,hmv,UE,wH N hp.2.1,Ea,q1,hp.2.2,if_true,hf]
 ·refine dP.quiet (h1.nN ad hh h1.own (fun _ _=>rfl)) BV (uE _ mX) (lG (tB mX)) ?_;rw[kJ N (tB mX),kg N _ mX]; exact r'
theorem VQ (hm:P.follows .mixedOrders=true) (h:SB X φ w B base s (tm a)) (hg:Am.dD (ga c) X φ w) {K:Kt} {x k y:E} (hk:cG P o.op (kz (.yu K x k y))=true) {b:Nat} {es:List AV} {r:Option (Nat × AV)}
  (hx:mapOf (aR c s.env x)=some b) (hb:aN s.H b=some es) (hp:eC es=true/\((pl (aR c s.env k)=true/\pl (aR c s.env y)=true)/\wV K (aR c s.env k) (aR c s.env k)=some true)) (hf:gM K (aR c s.env k) es 0=some r):kG P X φ w B base ⟨s.env,s.H.set b (some (yx (aR c s.env k) (aR c s.env y) es r))⟩ .undef o a:=by
 obtain⟨N,Ha,h,BV⟩:=h;obtain⟨MM,q1,h1⟩:=h.abQ hb hp.1;obtain⟨⟨y1,k1⟩,⟨y2,k2⟩,y3,k3⟩:=XE hk;have ex:=cc (c:=c) (cA:=ga c) h1 rfl k1;have ek:=cc (c:=c) (cA:=ga c) h1 rfl k2;have ey:=cc (c:=c) (cA:=ga c) h1 rfl k3;have hmv:=zM hx
 have mX:eC (yx (aR c s.env k) (aR c s.env y) es r)=true:=by
  have Us:pl (.dA [aR c s.env k,aR c s.env y])=true:=by simp[pl,eC,hp.2.1.1,hp.2.1.2]
  cases r with
  |none=>exact QM hp.1 (by simp[eC,Us])
  |some p=>exact QL hp.1 Us
 refine kG.of (kD hm h1 hg hk (va:=.undef) (Ha':=MM.set (N.β b) (some (yx (aR c s.env k) (aR c s.env y) es r))) (fl:=.wr MM.length [N.β b]) ?_) fun v' w' φ' r' hh ad=>?_
 ·simp only[kz,fi,ex.ev,ek.ev,ey.ev,hmv,UE,wH N hp.2.1.1,wH N hp.2.1.2,Ea,q1,hp.2.2,if_true,hf]
 ·refine dP.quiet (h1.HY hb hp.1 mX ad hh (by rw[df,if_pos ⟨rfl,dp q1⟩]) fun m hm=>by rw[df,if_neg (fun e=>hm e.1)]) ⟨BV.1,by simpa using BV.2⟩ trivial trivial r'
end
end Go.Bm

/- Every operation that calls nothing. -/
namespace Go.Bm
open Go.Am
def mC:Kd->Bool
 |.call _ _=>true
 |.iR _ _=>true
 |_=>false
section
variable {P:Program} {X:Nat->Prop} {φ φ':cX} {w w':World} {N N':Names} {s s' s1:St} {Ha Ha':Heap} {t t':Nat->Value} {B:Nat->Nat} {base:Nat} {v va:AV} {v':Value} {c:dM} {o:Oper} {a:Act} {kd:Kd} {call:Nat->List AV->Heap->Option (AV × Heap)}
theorem Q6 (hm:P.follows .mixedOrders=true) (h:SB X φ w B base s (tm a)) (hg:Am.dD (ga c) X φ w) {k:Nat} {zs:List AV} {x:E} (hk:cG P o.op (kz (.RZ k zs x))=true) (yI:(∃k',aR c s.env x=.own k' [])\/∃ k',aR c s.env x=.list k' []):kG P X φ w B base s .undef o a:=by
 obtain⟨N,Ha,h,hb⟩:=h;obtain⟨_,o1,h1⟩:=aaE hk;have hx:=cc (c:=c) (cA:=ga c) h rfl h1;refine kG.of (kD (va:=.undef) (Ha':=Ha) hm h hg hk (fl:=.wr Ha.length []) ?_) fun v' w' φ' r hh ad=>?_
 ·rcases yI with⟨k',e⟩|⟨k',e⟩<;>simp only[kz,fi,hx.ev,e,fS,cu]
 ·exact dP.quiet (h.nN ad hh h.own (fun _ _=>rfl)) hb trivial trivial r
theorem Zd (hm:P.follows .mixedOrders=true) (h:SB X φ w B base s (tm a)) (hg:Am.dD (ga c) X φ w) {n m b off:Nat} {x:E} {hi:Option E} {cs:List AV} (hk:cG P o.op (kz (.F9 n x hi))=true) (e1:aR c s.env x=.ptr b off) (w8:yZ c s.env n n hi=some m) (hbk:aN s.H b=some cs) (hl:off+n<=cs.length):kG P X φ w B base s (.sl 1 b off m) o a:=by
 obtain⟨N,Ha,h,hb⟩:=h;obtain⟨⟨o1,h1⟩,h2⟩:=R3 hk;have hx:=cc (c:=c) (cA:=ga c) h rfl h1;have g2:=OE (cA:=ga c) h rfl h2 w8;obtain⟨as,a1,a2,_⟩:=h.box b cs hbk;refine kG.of (kD (va:=.sl 1 (N.β b) off m) (Ha':=Ha) hm h hg hk (fl:=.rd (N.β b)) ?_) fun v' w' φ' r hh ad=>?_
 ·simp only[kz,fi,hx.ev,e1,fS,cu,g2,a1,a2];rw[if_pos hl]
 ·exact dP.quiet (h.nN ad hh h.own (fun _ _=>rfl)) hb (dp hbk) trivial r
theorem Xm {k off:Nat} {xs ys:List AV} (h1:∀x∈xs,x.cells.length=k) (h2:∀y∈ys,y.cells.length=k):az (iX xs off ys)=iX (az xs) (off*k) (az ys):=by
 unfold iX;rw[jU,jU,xc h1,Hi h1,iP h2,cj]
theorem VV (hm:P.follows .mixedOrders=true) (h:SB X φ w B base s (tm a)) (hg:Am.dD (ga c) X φ w) {k off n:Nat} {x y:E} (hk:cG P o.op (kz (.copy k x y))=true) {p:Rt} {xs ys:List AV} (yI:aR c s.env x=.du k p off n) (hp:aq s p=some (k,xs)) (hle:off+n<=xs.length) (hn0:n≠0) (hy:cont s k (aR c s.env y)=some ys) (wZ:bm (az ys)=true):kG P X φ w B base (setAt s p (.own k (iX xs off (ys.take (min ys.length n))))) (.int .i64 (min ys.length n:Nat)) o a:=by
 obtain⟨N,Ha,h,hb⟩:=h;obtain⟨⟨o1,h1⟩,o2,h2⟩:=Mh hk;have hx:=cc (c:=c) (cA:=ga c) h rfl h1;have cW:=hx.ok;rw[yI] at cW;obtain⟨news,n1,n2,n3,n4,n5⟩:=CI h hg h2 hy wZ;have eG:=h.own p k xs hp;rcases sg h cW with⟨b,hn,e2⟩|⟨_,_,LA,_⟩
 case inr=>exact absurd LA hn0
 rw[hn] at eG;obtain⟨cs,q1,q2,q3,q4⟩:=eG
 have IG:off*k+n*k<=cs.length:=by
  have:=bK k hle;rw[cj] at this; omega
 generalize Yi:min ys.length n=m;have hm3:m<=n/\m<=ys.length:=by omega
 have hmk:m*k<=n*k:=bK k hm3.1
 have ZU:(news.take (m*k)).length=m*k:=by
  rw[bg,n2];have:=bK k hm3.2;omega
 have CD:∀z∈ys.take m,z.cells.length=k:=fun z hz=>n3 z (cP hz);have Uu:az (ys.take m)=(az ys).take (m*k):=xc n3 m;have hyl:(ys.take m).length=m:=by rw[bg]; omega
 have hfl2:(az (ys.take m)).length=m*k:=by rw[iP CD,hyl]
 have hxk:off*k+m*k<=(az xs).length:=by
  rw[iP q3];have:=bK k hle;rw[cj] at this; omega
 refine kG.of (kD (va:=.int .i64 (m:Nat)) (Ha':=Ha.set b (some (iX cs (off*k) (news.take (m*k))))) hm h hg hk (fl:=.wr Ha.length [b]) ?_) fun v' w' φ' r hh ad=>?_
 ·simp only[kz,fi,n1,hx.ev,yI,fS,e2,q1,Yi];rw[if_pos ⟨trivial,IG,n4⟩]
 have WW:qj (Ha.set b (some (iX cs (off*k) (news.take (m*k))))) (some b) k (iX xs off (ys.take m)):=by
  refine⟨iX cs (off*k) (news.take (m*k)),by rw[df,if_pos ⟨rfl,dp q1⟩],?_,?_,?_⟩
  ·rw[fO (by rw[hyl]; omega),fO (by rw[ZU]; omega)]; exact q2
  ·intro z hz;unfold iX at hz;simp only[aC] at hz;rcases hz with (hz|hz)|hz
   ·exact q3 z (cP hz)
   ·exact CD z hz
   ·exact q3 z (cQ hz)
  ·intro i d hd;rw[Xm q3 CD,kL (by rw[hfl2]; exact hxk),hfl2] at hd;rw[kL (by rw[ZU]; omega),ZU];split
   ·rename_i hc; rw[if_pos hc] at hd; exact q4 i d hd
   ·rename_i hc;rw[if_neg hc] at hd;split
    ·rename_i F1;rw[if_pos F1,Uu,bC,if_pos (by omega)] at hd;obtain⟨f1,e,f2,f3,f4⟩:=n5 _ d hd;exact⟨f1,e,by rw[bC,if_pos (by omega)]; exact f2,f3,f4⟩
    ·rename_i F1; rw[if_neg F1] at hd; exact q4 i d hd
 obtain⟨gE,iN⟩:=h.upd (xs':=iX xs off (ys.take m)) hp hn (fO (by rw[hyl]; omega)) ad hh WW (fun m' CE=>by rw[df,if_neg (fun e=>CE e.1)]);exact dP.quiet gE ⟨hb.1,by rw[iN.len]; exact hb.2⟩ trivial trivial r
theorem VW (hm:P.follows .mixedOrders=true) (h:SB X φ w B base s (tm a)) (hg:Am.dD (ga c) X φ w) {k off:Nat} {x y:E} (hk:cG P o.op (kz (.copy k x y))=true) {p:Rt} {ys:List AV} (yI:aR c s.env x=.du k p off 0) (hy:cont s k (aR c s.env y)=some ys) (wZ:bm (az ys)=true):kG P X φ w B base s (.int .i64 0) o a:=by
 obtain⟨N,Ha,h,hb⟩:=h;obtain⟨⟨o1,h1⟩,o2,h2⟩:=Mh hk;have hx:=cc (c:=c) (cA:=ga c) h rfl h1;have cW:=hx.ok;rw[yI] at cW;obtain⟨news,n1,n2,n3,n4,n5⟩:=CI h hg h2 hy wZ;rcases sg h cW with⟨b,hn,e2⟩|⟨_,_,_,e2⟩
 ·simp only[ct] at cW;obtain⟨xs,hp,hle⟩:=cW;have eG:=h.own p k xs hp;rw[hn] at eG;obtain⟨cs,q1,q2,q3,q4⟩:=eG
  have IG:off*k+0*k<=cs.length:=by
   have:=bK k hle;rw[cj] at this; omega
  refine kG.of (kD (va:=.int .i64 0) (Ha':=Ha) hm h hg hk (fl:=.wr Ha.length [b]) ?_) fun v' w' φ' r hh ad=>dP.quiet (h.nN ad hh h.own (fun _ _=>rfl)) hb trivial trivial r;have he:iX cs (off*k) []=cs:=by unfold iX; simp
  have Cj:Ha.set b (some cs)=Ha:=by
   apply dq;intro i;rw[aQ];split
   ·rename_i hbi; subst hbi; rw[if_pos (dp q1)]; exact (q6 q1).symm
   ·rfl
  simp only[kz,fi,n1,hx.ev,yI,fS,e2,q1];rw[if_pos ⟨trivial,IG,n4⟩];simp[he,Cj]
 ·refine kG.of (kD (va:=.int .i64 0) (Ha':=Ha) hm h hg hk (fl:=.wr Ha.length []) ?_) fun v' w' φ' r hh ad=>dP.quiet (h.nN ad hh h.own (fun _ _=>rfl)) hb trivial trivial r;simp only[kz,fi,n1,hx.ev,yI,fS,e2]
theorem YR {f:Fq} (h1:mC kd=false) (h2:eO c call s kd=some (v,s',f)):(Nt c s.env kd=some v/\s'=s)\/(∃zs,kd=.new zs)\/(∃x,kd=.box x)\/(∃k n zs ps,kd=.eL k n zs ps)\/(∃k zs l cp,kd=.Jq k zs l cp)\/(∃ag x,kd=.ld ag x)\/(∃k x y,kd=.st k x y)\/(∃k zs x,kd=.RZ k zs x)\/(∃k x y,kd=.app k x y)\/(∃n x hi,kd=.F9 n x hi)\/(∃k x y,kd=.copy k x y)\/kd=.AO\/(∃K ok z x k,kd=.xz K ok z x k)\/(∃K x k y,kd=.yu K x k y):=by
 cases kd<;>simp only[eO] at h2<;>first
  | (left
     split at h2
     ·rename_i u hu;simp only[af,aA] at h2;obtain⟨rfl,rfl,_⟩:=h2;exact⟨hu,rfl⟩
     ·cases h2)
  |(right; simp; done)
  |(simp[mC] at h1; done)
theorem acU (hm:P.follows .mixedOrders=true) (h:SB X φ w B base s (tm a)) (hg:Am.dD (ga c) X φ w) {f:Fq} (hk:cG P o.op (kz kd)=true) (hnc:mC kd=false) (hs:eO c call s kd=some (v,s',f)):kG P X φ w B base s' v o a:=by
 rcases YR hnc hs with⟨h1,rfl⟩|⟨zs,rfl⟩|⟨x,rfl⟩|⟨k,n,zs,ps,rfl⟩|⟨k,zs,l,cp,rfl⟩|⟨ag,x,rfl⟩|⟨k,x,y,rfl⟩|⟨k,zs,x,rfl⟩|⟨k,x,y,rfl⟩|⟨n,x,hi,rfl⟩|⟨k,x,y,rfl⟩|rfl|⟨K,ok,z,x,k,rfl⟩|⟨K,x,k,y,rfl⟩
 ·exact Q3 hm h hg hk h1
 ·simp only[eO,af,aA] at hs;obtain⟨rfl,rfl,_⟩:=hs;exact Nu hm h hg hk
 ·simp only[eO] at hs;split at hs
  case isFalse=>cases hs
  rename_i hl;simp only[af,aA] at hs;obtain⟨rfl,rfl,_⟩:=hs;exact Zc hm h hg hk hl
 ·simp only[eO] at hs;split at hs
  case h_2=>cases hs
  rename_i cs hf;split at hs
  case isFalse=>cases hs
  rename_i hz;simp only[af,aA] at hs;obtain⟨rfl,rfl,_⟩:=hs;obtain⟨nY,h1,a1⟩:=SB.dJ (gg c s.env ps) h;exact kG.ghost a1 (Nx hm h1 (hg.nN a1) hk hf hz)
 ·simp only[eO] at hs;split at hs
  case h_2=>cases hs
  rename_i k1 l' k2 cp' e1 e2;split at hs
  case isFalse=>cases hs
  rename_i hc;split at hs
  ·rename_i z hz;simp only[af,aA] at hs;obtain⟨rfl,rfl,_⟩:=hs;exact Y6 hm h hg hk hz e1 e2 hc
  ·simp only[af,aA] at hs;obtain⟨rfl,rfl,_⟩:=hs;exact Y7 hm h hg hk e1 e2 hc
 ·simp only[eO] at hs;split at hs
  case h_2=>cases hs
  rename_i u ps hp;split at hs
  case isFalse=>cases hs
  simp only[af,aA] at hs;obtain⟨rfl,rfl,_⟩:=hs;exact ac5 hm h hg hk hp
 ·simp only[eO] at hs;split at hs
  ·rename_i k' p i off e0;split at hs
   case h_2=>cases hs
   rename_i s2 f2 h2;simp only[af,aA] at hs;obtain⟨rfl,rfl,_⟩:=hs;obtain⟨nY,h1,a1⟩:=SB.dJ (aI (aR c s.env y)) h;refine kG.ghost a1 ?_;generalize dJ (aI (aR c s.env y)) s=s3 at h1 h2;unfold MA at h2;split at h2
   ·rename_i b off' e1;exact Kx hm h1 (hg.nN a1) hk e1 h2
   ·rename_i k2 p2 i2 Zh e1;split at h2
    case h_2=>cases h2
    rename_i k3 xs hp;split at h2
    case isFalse=>cases h2
    rename_i tq;subst tq;split at h2
    case h_2=>cases h2
    rename_i u hu;split at h2
    case isFalse=>cases h2
    rename_i hc;simp only[af,aA] at h2;obtain⟨rfl,_⟩:=h2;exact acX hm h1 (hg.nN a1) hk e1 hp hu hc.1 hc.2.1 hc.2.2
   ·cases h2
  ·rename_i hnp;split at hs
   case h_2=>cases hs
   rename_i s2 f2 h2;simp only[af,aA] at hs;obtain⟨rfl,rfl,_⟩:=hs;unfold MA at h2;split at h2
   ·rename_i b off' e1;exact Kx hm h hg hk e1 h2
   ·rename_i k2 p2 i2 Zh e1;exact absurd e1 (hnp k2 p2 i2 Zh)
   ·cases h2
 ·simp only[eO] at hs;split at hs
  ·rename_i k' e1;simp only[af,aA] at hs;obtain⟨rfl,rfl,_⟩:=hs;exact Q6 hm h hg hk (.inl ⟨k',e1⟩)
  ·rename_i k' e1;simp only[af,aA] at hs;obtain⟨rfl,rfl,_⟩:=hs;exact Q6 hm h hg hk (.inr ⟨k',e1⟩)
  ·cases hs
 ·simp only[eO] at hs;split at hs
  case h_2=>cases hs
  rename_i ys hy;split at hs
  case isFalse=>cases hs
  rename_i wZ;split at hs
  ·rename_i k' e1;split at hs
   case isFalse=>cases hs
   rename_i hl;simp only[af,aA] at hs;obtain⟨rfl,rfl,_⟩:=hs;exact Zf hm h hg hk e1 hy wZ hl
  ·rename_i k' p len e1;split at hs
   case h_2=>cases hs
   rename_i wW xs hp;split at hs
   case isFalse=>cases hs
   rename_i hc;obtain⟨rfl,rfl,hle,hl⟩:=hc;simp only[af,aA] at hs;obtain⟨rfl,rfl,_⟩:=hs;exact Ze hm h hg hk e1 hp hle hy wZ hl
  ·cases hs
 ·simp only[eO] at hs;split at hs
  ·rename_i b off e1;split at hs
   case h_2=>cases hs
   rename_i m cs w8 hbk;split at hs
   case isFalse=>cases hs
   rename_i hl;simp only[af,aA] at hs;obtain⟨rfl,rfl,_⟩:=hs;exact Zd hm h hg hk e1 w8 hbk hl
  ·split at hs
   case h_2=>cases hs
   rename_i u hu;simp only[af,aA] at hs;obtain⟨rfl,rfl,_⟩:=hs;exact Q3 hm h hg hk hu
 ·simp only[eO] at hs;split at hs
  case h_2=>cases hs
  rename_i k' p off n e1;split at hs
  ·rename_i hn;subst hn;split at hs
   case h_2=>cases hs
   rename_i ys hy;split at hs
   case isFalse=>cases hs
   rename_i hc;obtain⟨rfl,hl⟩:=hc;simp only[af,aA] at hs;obtain⟨rfl,rfl,_⟩:=hs;exact VW hm h hg hk e1 hy hl
  ·rename_i hn;split at hs
   case h_2=>cases hs
   rename_i wW xs ys hp hy;split at hs
   case isFalse=>cases hs
   rename_i hc;obtain⟨rfl,rfl,hle,hl⟩:=hc;simp only[af,aA] at hs;obtain⟨rfl,rfl,_⟩:=hs;exact VV hm h hg hk e1 hp hle hn hy hl
 ·simp only[eO,af,aA] at hs;obtain⟨rfl,rfl,_⟩:=hs;exact VR hm h hg hk
 ·simp only[eO] at hs;split at hs
  case h_2=>cases hs
  rename_i b e1;split at hs
  case h_2=>cases hs
  rename_i es e2;split at hs
  case isFalse=>cases hs
  rename_i hp;split at hs
  case h_2=>cases hs
  rename_i r e3;split at hs
  case isFalse=>cases hs
  rename_i hz;simp only[af,aA] at hs;obtain⟨rfl,rfl,_⟩:=hs;exact VT hm h hg hk e1 e2 hp e3 hz
 ·simp only[eO] at hs;split at hs
  case h_2=>cases hs
  rename_i b e1;split at hs
  case h_2=>cases hs
  rename_i es e2;split at hs
  case isFalse=>cases hs
  rename_i hp;split at hs
  case h_2=>cases hs
  rename_i r e3;simp only[af,aA] at hs;obtain⟨rfl,rfl,_⟩:=hs;exact VQ hm h hg hk e1 e2 hp e3
end
end Go.Bm

/- Calls: arguments by value. -/
namespace Go.Bm
open Go.Am
section
variable {P:Program} {X:Nat->Prop} {φ φ':cX} {w w':World} {N N':Names} {s s' s1:St} {Ha Ha':Heap} {t t':Nat->Value} {B:Nat->Nat} {base:Nat} {v va:AV} {v':Value} {c:dM} {o:Oper} {a:Act} {kd:Kd} {call:Nat->List AV->Heap->Option (AV × Heap)}
theorem B9 (h:bO X φ w Ha) {n k:Nat} {xs:List AV} (ho:qj Ha (some n) k xs) {off len:Nat} (hle:off+len<=xs.length) {v:Value} (r:bD (Rd X φ w) φ (.sl k n (off*k) len) v) :
  bD (Rd X [] w) [] (.list k ((xs.drop off).take len)) v:=by
 obtain⟨g,sz,jT,hX,hc⟩:=wO h ho;have Ba:∀a u,Rd X φ w a u->Rd X [] w a u:=fun a u ⟨h1,_,h3⟩=>⟨h1,bQ.nil _,h3⟩;cases r with
 |sl _ _ _ _ _ a cap hb iO hh=>
   obtain⟨h1,h2⟩:=hh g sz jT;by_cases h0:len=0
   ·subst h0;simp only[nU];exact .uU _ _ _ _ _ _ (fun _ _=>undef) rfl iO (fun x hx=>by simp at hx) (fun i j x c hx=>by simp at hx) (fun i j x c hx=>by simp at hx)
   ·have ha:=h1 (by omega);subst ha
    have hx:∀(i:Nat) (x:AV),((xs.drop off).take len)[i]?=some x->xs[off+i]?=some x/\i<len:=by
     intro i x hx;rw[bC] at hx;split at hx
     ·rw[aO] at hx; exact⟨hx,‹_›⟩
     ·cases hx
    obtain⟨cs,q1,q2,hk,q4⟩:=ho;refine .uU _ _ _ _ _ _ (fun i j=>(w.cell? ⟨g,(off+i)*k+j,none⟩).getD undef) (by simp; omega) iO (fun x hm=>?_) (fun i j x c hi hj=>?_) (fun i j x c hi hj=>?_)
    ·exact hk x (cQ (cP hm))
    ·obtain⟨u,u1,_,_⟩:=hc _ j x c (hx i x hi).1 hj;rw[u1,Addr.iq,show off*k+(i*k+j)=(off+i)*k+j by rw[cj]; omega];exact⟨hX,bQ.nil _,u1⟩
    ·obtain⟨u,u1,_,u3⟩:=hc _ j x c (hx i x hi).1 hj;rw[u1];exact u3.mono Ba (.refl _)
mutual
theorem fk (h:dY X φ w N s Ha t):∀(x y:AV),ks false s x=some y->ct (aq s) s.H.length x->(pl y=true/\∀ v,bD (Rd X φ w) φ (cu N x) v->bD (Rd X [] w) [] y v)
 |.du k p off len,y,hf,hk=>by
   simp only[ks] at hf;split at hf
   case h_2=>cases hf
   rename_i k' xs hp;split at hf
   case isFalse=>cases hf
   rename_i hc;obtain⟨rfl,hle⟩:=hc;simp at hf;subst hf;refine⟨rfl,fun v r=>?_⟩;have eG:=h.own p k' xs hp;rcases sg h hk with⟨n,hn,e2⟩|⟨hn,h0,h1,e2⟩
   ·rw[e2] at r;rw[hn] at eG;exact B9 h.heap eG hle r
   ·rw[e2] at r;subst h1;simp only[nU];cases r;exact .j5 _ _
 |.agg cs,y,hf,hk=>by
   simp only[ks] at hf;split at hf
   case h_2=>cases hf
   rename_i ds hd;simp at hf;subst hf;simp only[ct] at hk;obtain⟨h1,h2,h3⟩:=vS h cs ds hd hk;refine⟨h1,fun v r=>?_⟩;simp only[cu] at r;cases r with
   |agg _ _ vs hl hh=>exact .agg _ _ _ (by rw[h2,<-dw N cs]; exact hl) (fun i d u BS hu=>h3 i d u BS (fun z hz=>hh i z u hz hu))
 |.dA cs,y,hf,hk=>by
   simp only[ks] at hf;split at hf
   case h_2=>cases hf
   rename_i ds hd;simp at hf;subst hf;simp only[ct] at hk;obtain⟨h1,h2,h3⟩:=vS h cs ds hd hk;refine⟨h1,fun v r=>?_⟩;simp only[cu] at r;cases r with
   |dA _ _ vs hl hh=>exact .dA _ _ _ (by rw[h2,<-dw N cs]; exact hl) (fun i d u BS hu=>h3 i d u BS (fun z hz=>hh i z u hz hu))
 |.func f a b,y,hf,hk=>by
   simp only[ks] at hf;split at hf
   case h_2=>cases hf
   rename_i a' b' ha hb;simp at hf;subst hf;simp only[ct] at hk;obtain⟨h1,h2,h3⟩:=vS h a a' ha hk.1;obtain⟨k1,k2,k3⟩:=vS h b b' hb hk.2.1
   have hny:uF f=false:=by
    cases hy:uF f with
    |false=>rfl
    |true=>obtain⟨_,c,rfl⟩:=hk.2.2 hy; simp[Bi,ks] at hb
   refine⟨by simp only[pl,ae,bn]; exact⟨hny,h1,k1⟩,fun v r=>?_⟩;simp only[cu] at r;rcases r.vR with⟨hy,va,vb,rfl,yL,yK,hra,hrb⟩|⟨_,_,rfl,_⟩
   case inr=>simp[uF] at hny
   ·exact .func _ _ _ _ _ _ hy (by rw[h2,<-dw N a]; exact yL) (by rw[k2,<-dw N b]; exact yK) (fun i d u BS hu=>h3 i d u BS (fun z hz=>hra i z u hz hu)) (fun i d u BS hu=>k3 i d u BS (fun z hz=>hrb i z u hz hu))
 |.own _ _,y,hf,hk=>by simp[ks] at hf
 |.eR _ _ _ _,y,hf,hk=>by simp[ks] at hf
 |.ptr _ _,y,hf,hk=>by simp[ks] at hf
 |.sl _ _ _ _,y,hf,hk=>by simp[ks] at hf
 |.any,y,hf,hk=>by simp[ks] at hf
 |.undef,y,hf,hk=>by simp[ks] at hf; subst hf; exact⟨rfl,fun v r=>(r.dx rfl []).mono (fun a u ⟨h1,_,h3⟩=>⟨h1,bQ.nil _,h3⟩) (.refl _)⟩
 |.fg,y,hf,hk=>by simp[ks] at hf; subst hf; exact⟨rfl,fun v r=>(r.dx rfl []).mono (fun a u ⟨h1,_,h3⟩=>⟨h1,bQ.nil _,h3⟩) (.refl _)⟩
 |.fj,y,hf,hk=>by simp[ks] at hf; subst hf; exact⟨rfl,fun v r=>(r.dx rfl []).mono (fun a u ⟨h1,_,h3⟩=>⟨h1,bQ.nil _,h3⟩) (.refl _)⟩
 |.di,y,hf,hk=>by simp[ks] at hf; subst hf; exact⟨rfl,fun v r=>(r.dx rfl []).mono (fun a u ⟨h1,_,h3⟩=>⟨h1,bQ.nil _,h3⟩) (.refl _)⟩
 |.int _ _,y,hf,hk=>by simp[ks] at hf; subst hf; exact⟨rfl,fun v r=>(r.dx rfl []).mono (fun a u ⟨h1,_,h3⟩=>⟨h1,bQ.nil _,h3⟩) (.refl _)⟩
 |.bool _,y,hf,hk=>by simp[ks] at hf; subst hf; exact⟨rfl,fun v r=>(r.dx rfl []).mono (fun a u ⟨h1,_,h3⟩=>⟨h1,bQ.nil _,h3⟩) (.refl _)⟩
 |.str _,y,hf,hk=>by simp[ks] at hf; subst hf; exact⟨rfl,fun v r=>(r.dx rfl []).mono (fun a u ⟨h1,_,h3⟩=>⟨h1,bQ.nil _,h3⟩) (.refl _)⟩
 |.list _ _,y,hf,hk=>by simp[ks] at hf; subst hf; exact⟨rfl,fun v r=>(r.dx rfl []).mono (fun a u ⟨h1,_,h3⟩=>⟨h1,bQ.nil _,h3⟩) (.refl _)⟩
 |.de _,y,hf,hk=>by simp[ks] at hf; subst hf; exact⟨rfl,fun v r=>(r.dx rfl []).mono (fun a u ⟨h1,_,h3⟩=>⟨h1,bQ.nil _,h3⟩) (.refl _)⟩
theorem vS (h:dY X φ w N s Ha t):∀(xs ys:List AV),Bi false s xs=some ys->jX (aq s) s.H.length xs->(eC ys=true/\ys.length=xs.length/\∀ (i:Nat) (y:AV) (v:Value),ys[i]?=some y->(∀z,(kj N xs)[i]?=some z->bD (Rd X φ w) φ z v)->bD (Rd X [] w) [] y v)
 |[],ys,hf,_=>by simp[Bi] at hf; subst hf; exact⟨rfl,rfl,fun i y v hy=>by simp at hy⟩
 |x::r,ys,hf,hk=>by
   simp only[Bi] at hf;split at hf
   case h_2=>cases hf
   rename_i y zd h1 h2;simp at hf;subst hf;obtain⟨a1,a2⟩:=fk h x y h1 hk.1;obtain⟨b1,b2,b3⟩:=vS h r zd h2 hk.2;refine⟨by simp only[eC,ae]; exact⟨a1,b1⟩,by simp[b2],fun i z v hz hv=>?_⟩;cases i with
   |zero=>simp[kj] at hz hv; subst hz; exact a2 v hv
   |succ i=>simp[kj] at hz hv; exact b3 i z v hz hv
end
theorem Xl (h:dY X φ w N s Ha t) {r:Rt} {x y:AV} (hx:at_ s r=some x) (hf:Ob x=some y):(pl y=true/\y.cells=[y])/\∀ v,bD (Rd X φ w) φ (iJ N r x) v->bD (Rd X [] w) [] y v:=by
 unfold Ob at hf;split at hf
 ·rename_i k xs;simp at hf;subst hf;refine⟨⟨rfl,rfl⟩,fun v rv=>?_⟩;have eG:=h.own r k xs (bR.2 hx);simp only[iJ,qI] at rv;cases hn:N.ν r with
  |none=>
    rw[hn] at eG rv;have:xs=[]:=eG;subst this;simp only at rv;cases rv;exact .j5 _ _
  |some n=>
    rw[hn] at eG rv;have:=B9 (off:=0) (len:=xs.length) h.heap eG (by omega) (v:=v) (by simpa using rv);simpa using this
 ·rename_i gV;split at hf
  case isFalse=>cases hf
  rename_i hz;simp at hf;subst hf;obtain⟨h1,h2⟩:=lI hz;refine⟨⟨h1,by cases x<;>first|rfl|(simp[AV.leaf] at h2; done)⟩,fun v rv=>?_⟩;have e:iJ N r x=cu N x:=by cases x<;>first|rfl|exact (gV _ _ rfl).elim
  rw[e,kg N x h1] at rv;exact (rv.dx (fQ _ h1) []).mono (fun a u ⟨h1,_,h3⟩=>⟨h1,bQ.nil _,h3⟩) (.refl _)
theorem He:∀{cs ys:List AV},xO cs=some ys->ys.length=cs.length/\∀ (i:Nat) (y:AV),ys[i]?=some y->∃x,cs[i]?=some x/\Ob x=some y
 |[],ys,h=>by simp[xO] at h; subst h; exact⟨rfl,fun i y hy=>by simp at hy⟩
 |x::r,ys,h=>by
   simp only[xO] at h;split at h
   case h_2=>cases h
   rename_i y zd h1 h2;simp at h;subst h;obtain⟨k1,k2⟩:=He h2;refine⟨by simp[k1],fun i z hz=>?_⟩;cases i with
   |zero=>simp at hz; subst hz; exact⟨x,rfl,h1⟩
   |succ i=>simp at hz; obtain⟨u,u1,u2⟩:=k2 i z hz; exact⟨u,by simpa using u1,u2⟩
theorem LP (h:dY X φ w N s Ha t) {k b off len:Nat} {y:AV} (hf:LQ s k b off len=some y):pl y=true/\∀ v,bD (Rd X φ w) φ (cu N (.sl k b off len)) v->bD (Rd X [] w) [] y v:=by
 unfold LQ at hf;split at hf
 case h_2=>cases hf
 rename_i cs hb;split at hf
 case isFalse=>cases hf
 rename_i hc;obtain⟨rfl,hle⟩:=hc;split at hf
 case h_2=>cases hf
 rename_i ys hy;simp at hf;subst hf;refine⟨rfl,fun v r=>?_⟩;obtain⟨as,a1,a2,a3⟩:=h.box b cs hb;obtain⟨k1,k2⟩:=He hy;have hyl:ys.length=len:=by rw[k1,bg,List.length_drop]; omega
 simp only[cu] at r;cases r with
 |sl _ _ _ _ _ a cap iU iO hh=>
   obtain⟨g,sz,arr,e,g1,g2,g3,g4,g5,g6⟩:=h.heap.cat a1 (fun g sz q=>by have:=(hh g sz q).2; omega);obtain⟨h1,h2⟩:=hh g sz g1;by_cases h0:len=0
   ·subst h0;have:ys=[]:=dH hyl;subst this;exact .uU _ _ _ _ _ _ (fun _ _=>undef) rfl iO (fun x hx=>by simp at hx) (fun i j x c hx=>by simp at hx) (fun i j x c hx=>by simp at hx)
   ·have ha:=h1 (by omega);subst ha
    have cell:∀(i:Nat) (y:AV),ys[i]?=some y->(pl y=true/\y.cells=[y])/\∃ u,w.cell? ⟨g,off+i,none⟩=some u/\bD (Rd X [] w) [] y u:=by
     intro i y hi;obtain⟨x,x1,x2⟩:=k2 i y hi
     have x3:cs[off+i]?=some x:=by
      rw[bC] at x1;split at x1
      ·rw[aO] at x1; exact x1
      ·cases x1
     obtain⟨_,a',b1,b2⟩:=a3 _ x x3;obtain⟨u,u1,u2⟩:=g6 _ a' b1;obtain⟨c1,c2⟩:=Xl h (r:=.c b (off+i)) (x:=x) (by simp only[at_,hb]; exact x3) x2;exact⟨c1,u,by rw[gP g2]; exact u1,c2 u (b2 _ _ _ u2)⟩
    refine .uU _ _ _ _ _ _ (fun i j=>(w.cell? ⟨g,off+i,none⟩).getD undef) hyl.symm iO (fun x hm=>?_) (fun i j x c hi hj=>?_) (fun i j x c hi hj=>?_)
    ·obtain⟨i,hi⟩:=bt hm;rw[(cell i x hi).1.2]; rfl
    ·obtain⟨⟨q1,q2⟩,u,u1,u2⟩:=cell i x hi;rw[q2] at hj;have hj0:j=0:=by have:=aj hj; simp at this; exact this
     subst hj0;rw[u1,Addr.iq,show off+(i*1+0)=off+i by omega];exact⟨g5,bQ.nil _,u1⟩
    ·obtain⟨⟨q1,q2⟩,u,u1,u2⟩:=cell i x hi;rw[q2] at hj;have hj0:j=0:=by have:=aj hj; simp at this; exact this
     subst hj0;simp at hj;subst hj;rw[u1];exact u2
mutual
theorem LR (h:dY X φ w N s Ha t):∀(x y:AV),Oa s x=some y->ct (aq s) s.H.length x->(pl y=true/\∀ v,bD (Rd X φ w) φ (cu N x) v->bD (Rd X [] w) [] y v)
 |.sl k b off len,y,hf,_=>by simp only[Oa] at hf; exact LP h hf
 |.dA cs,y,hf,hk=>by
   simp only[Oa] at hf;split at hf
   case h_2=>cases hf
   rename_i ds hd;simp at hf;subst hf;simp only[ct] at hk;obtain⟨h1,h2,h3⟩:=Hc h cs ds hd hk;refine⟨h1,fun v r=>?_⟩;simp only[cu] at r;cases r with
   |dA _ _ vs hl hh=>exact .dA _ _ _ (by rw[h2,<-dw N cs]; exact hl) (fun i d u BS hu=>h3 i d u BS (fun z hz=>hh i z u hz hu))
 |.any,y,hf,hk=>fk h _ y hf hk
 |.undef,y,hf,hk=>fk h _ y hf hk
 |.fg,y,hf,hk=>fk h _ y hf hk
 |.fj,y,hf,hk=>fk h _ y hf hk
 |.di,y,hf,hk=>fk h _ y hf hk
 |.int _ _,y,hf,hk=>fk h _ y hf hk
 |.bool _,y,hf,hk=>fk h _ y hf hk
 |.str _,y,hf,hk=>fk h _ y hf hk
 |.agg _,y,hf,hk=>fk h _ y hf hk
 |.list _ _,y,hf,hk=>fk h _ y hf hk
 |.de _,y,hf,hk=>fk h _ y hf hk
 |.ptr _ _,y,hf,hk=>fk h _ y hf hk
 |.func _ _ _,y,hf,hk=>fk h _ y hf hk
 |.own _ _,y,hf,hk=>fk h _ y hf hk
 |.du _ _ _ _,y,hf,hk=>fk h _ y hf hk
 |.eR _ _ _ _,y,hf,hk=>fk h _ y hf hk
theorem Hc (h:dY X φ w N s Ha t):∀(xs ys:List AV),Hd s xs=some ys->jX (aq s) s.H.length xs->(eC ys=true/\ys.length=xs.length/\∀ (i:Nat) (y:AV) (v:Value),ys[i]?=some y->(∀z,(kj N xs)[i]?=some z->bD (Rd X φ w) φ z v)->bD (Rd X [] w) [] y v)
 |[],ys,hf,_=>by simp[Hd] at hf; subst hf; exact⟨rfl,rfl,fun i y v hy=>by simp at hy⟩
 |x::r,ys,hf,hk=>by
   simp only[Hd] at hf;split at hf
   case h_2=>cases hf
   rename_i y zd h1 h2;simp at hf;subst hf;obtain⟨a1,a2⟩:=LR h x y h1 hk.1;obtain⟨b1,b2,b3⟩:=Hc h r zd h2 hk.2;refine⟨by simp only[eC,ae]; exact⟨a1,b1⟩,by simp[b2],fun i z v hz hv=>?_⟩;cases i with
   |zero=>simp[kj] at hz hv; subst hz; exact a2 v hv
   |succ i=>simp[kj] at hz hv; exact b3 i z v hz hv
end
theorem EJ (h:dY X φ w N s Ha t):∀(xs ys:List AV),tP s xs=some ys->jX (aq s) s.H.length xs->(eC ys=true/\ys.length=xs.length/\∀ (i:Nat) (y:AV) (v:Value),ys[i]?=some y->(∀z,(gI N xs)[i]?=some z->bD (Rd X φ w) φ z v)->bD (Rd X [] w) [] y v)
 |[],ys,hf,_=>by simp[tP] at hf; subst hf; exact⟨rfl,rfl,fun i y v hy=>by simp at hy⟩
 |x::r,ys,hf,hk=>by
   have gen:∀{y zd},(pl y=true/\∀ v,bD (Rd X φ w) φ (cu N x) v->bD (Rd X [] w) [] y v)->tP s r=some zd->(∀k l,x≠.own k l)->ys=y::zd->(eC ys=true/\ys.length=(x::r).length/\∀ (i:Nat) (y:AV) (v:Value),ys[i]?=some y->(∀z,(gI N (x::r))[i]?=some z->bD (Rd X φ w) φ z v)->bD (Rd X [] w) [] y v):=by
    intro y zd h1 h2 hn e;subst e;obtain⟨a1,a2⟩:=h1;obtain⟨b1,b2,b3⟩:=EJ h r zd h2 hk.2;have ex:fS N x=cu N x:=by cases x<;>first|rfl|exact absurd rfl (hn _ _)
    refine⟨by simp only[eC,ae]; exact⟨a1,b1⟩,by simp[b2],fun i z v hz hv=>?_⟩;cases i with
    |zero=>simp[gI] at hz hv; subst hz; rw[ex] at hv; exact a2 v hv
    |succ i=>simp[gI] at hz hv; exact b3 i z v hz hv
   by_cases ho:∃k,x=.own k []
   ·obtain⟨k,rfl⟩:=ho;simp only[tP] at hf;split at hf
    case h_2=>cases hf
    rename_i zd h2;simp at hf;subst hf;obtain⟨b1,b2,b3⟩:=EJ h r zd h2 hk.2;refine⟨by simp only[eC,pl,MU]; exact b1,by simp[b2],fun i z v hz hv=>?_⟩;cases i with
    |zero=>
      simp[gI,fS] at hz hv;subst hz;cases hv;exact .j5 _ _
    |succ i=>simp[gI] at hz hv; exact b3 i z v hz hv
   ·have hn:∀k l,x≠.own k l:=by
     rintro k l rfl;cases l with
     |nil=>exact ho ⟨k,rfl⟩
     |cons z l=>simp[tP,ks] at hf
    by_cases qe:∃k b off len,x=.sl k b off len
    ·obtain⟨k,b,off,len,rfl⟩:=qe;simp only[tP] at hf;split at hf
     case h_2=>cases hf
     rename_i y zd h1 h2;simp at hf;exact gen (LP h h1) h2 hn hf.symm
    rw[tP] at hf
    ·split at hf
     case h_2=>cases hf
     rename_i y zd h1 h2;simp at hf;exact gen (fk h x y h1 hk.1) h2 hn hf.symm
    ·exact fun k e=>ho ⟨k,e⟩
    ·exact fun k b off len e=>qe ⟨k,b,off,len,e⟩
end
end Go.Bm

/- Calls of functions that see no boxes. -/
namespace Go.Bm
open Go.Am
section
variable {P:Program} {X:Nat->Prop} {φ φ':cX} {w w':World} {N N':Names} {s s' s1:St} {Ha Ha':Heap} {t t':Nat->Value} {B:Nat->Nat} {base:Nat} {v va:AV} {v':Value} {c:dM} {o:Oper} {a:Act} {kd:Kd} {call:Nat->List AV->Heap->Option (AV × Heap)}
def Fv (X:Nat->Prop) (φ:cX) (w:World) (B:Nat->Nat) (base:Nat) (r:AV) (H':Heap) (e:Ending) (w':World):Prop:=
 ∃ v' φ',e=.returned v'/\SB X φ' w' B base ⟨[(0,r)],H'⟩ (fun i=>if i=0 then v' else undef)/\eT φ w φ' w'
def gC (P:Program) (c:dM) (call:Nat->List AV->Heap->Option (AV × Heap)):Prop:=
 ∀ f md q,c.fn f=some (md,q)->∀args H r H',(md.sh=true\/H=[])->call f args H=some (r,H')->(md.sh=true->gQ H'=true)->∀X φ w B (vargs:Array Value),args.length=vargs.size->SB X φ w B H.length ⟨dL 0 args,H⟩ (fun i=>vargs.getD i undef)->Am.dD (ga c) X φ w->Calls P f vargs w (Fv X φ w B H.length r H')
theorem xL (cW:eM P c) {f:Nat} {m:Md} {q:gR} (hf:c.fn f=some (m,q)) (vargs:Array Value):(callFunc f vargs).run P w=.ok (.enter f vargs) w:=by
 obtain⟨fn,h1,h2⟩:=cW.fn f m q hf;simp only[cY,ae,bn] at h2;obtain⟨⟨⟨_,zV⟩,_⟩,s8⟩:=h2
 have hb:fn.body.isNone=false:=by
  cases hfb:fn.body with
  |none=>rw[hfb] at s8; cases s8
  |some b=>rfl
 simp only[callFunc,Sem.run_bind,run_program,Result.andThen_ok,h1,zV,hb,bk,if_false,Sem.run_pure]
def Jm (R:Addr->Value->Prop) (φ:cX) (N:Names) (xs:List AV) (vs:Array Value):Prop:=xs.length=vs.size/\∀ (i:Nat) (x:AV) (v:Value),xs[i]?=some x->vs[i]?=some v->bD R φ (fS N x) v
theorem Jm.append {R:Addr->Value->Prop} {xs ys:List AV} {vs us:Array Value} (h:Jm R φ N xs vs) (k:Jm R φ N ys us):Jm R φ N (xs++ys) (vs++us):=by
 refine⟨by simp[h.1,k.1],fun i x v hx hv=>?_⟩;by_cases hi:i<xs.length
 ·rw[au hi] at hx;rw[rU (by have:=h.1; omega)] at hv;exact h.2 i x v hx hv
 ·rw[aJ (by omega)] at hx;rw[FA (by have:=h.1; omega),<-h.1] at hv;exact k.2 _ x v hx hv
theorem XG {op:Op} {f:Nat} {ys:List E} (h:cG P op (.call f ys)=true):∃ca:Call,op=.call ca/\ca.callee=.value (.func f)/\iy ca.args.toList ys=true:=by
 unfold cG at h;split at h<;>simp_all
theorem T6 {op:Op} {y:E} {ys:List E} (h:cG P op (.iR y ys)=true):∃(ca:Call) (x:Operand),op=.call ca/\ca.callee=.value x/\cH x y=true/\iy ca.args.toList ys=true:=by
 unfold cG at h;split at h<;>simp_all
theorem oX (cW:eM P c) (h:dY X φ w N s Ha (tm a)) (hg:Am.dD (ga c) X φ w) (hk:cG P o.op (kz kd)=true) {f:Nat} {args:List AV} (ha:oU c s.env kd=some (f,args)) {md:Md} {q:gR} (hf:c.fn f=some (md,q)) :
  ∃ vargs:Array Value,(execOp a.eval o).run P w=.ok (.enter f vargs) w/\Jm (Rd X φ w) φ N args vargs/\jX (aq s) s.H.length args:=by
 have he:oZ X φ w (ze N s.env) a.tmps:=fun i=>by rw[mF]; exact h.env i
 have Xq:∀{os:Array Operand} {xs:List E},iy os.toList (Bk xs)=true->Jm (Rd X φ w) φ N (dm c s.env xs) (os.map a.eval)/\jX (aq s) s.H.length (dm c s.env xs):=by
  intro os xs hk;obtain⟨e1,e2⟩:=sW (cA:=ga c) h rfl hk;obtain⟨hl,hr⟩:=nH (a:=a) he hg hk;rw[e1,iv] at hl;refine⟨⟨by simpa using hl,fun i x v hx hv=>?_⟩,e2⟩;refine hr i (fS N x) v (by rw[e1,n9,hx]; rfl) (by simpa using hv)
 cases kd<;>simp only[oU,reduceCtorEq] at ha
 case call f' ys=>
  simp only[af,aA] at ha;obtain⟨rfl,rfl⟩:=ha;obtain⟨ca,eI,BT,mE⟩:=XG hk;obtain⟨e1,e2⟩:=Xq mE;refine⟨ca.args.map a.eval,?_,e1,e2⟩;simp only[execOp,eI,resolve,BT,Act.eval,Deferred.ofValue,invoke,Sem.run_bind,Sem.run_pure,Result.andThen_ok,Array.empty_append,Array.append_empty];exact xL cW hf _
 case iR y ys=>
  obtain⟨ca,x,eI,BT,hx,mE⟩:=T6 hk;have ho:=cc (c:=c) (cA:=ga c) h rfl hx;have rx:=bL (a:=a) he hg hx;rw[ho.ev] at rx;have FX:=ho.ok;cases e:aR c s.env y<;>rw[e] at ha rx FX<;>try (simp at ha; done)
  rename_i fn as bs;cases fn<;>simp only[reduceCtorEq] at ha
  rename_i f';split at ha
  ·cases ha
  rename_i gV;simp only[dG,not_or,Bool.not_eq_true] at gV;simp only[af,aA] at ha;obtain⟨rfl,rfl⟩:=ha;obtain⟨e1,e2⟩:=Xq mE;simp only[fS,cu] at rx;simp only[ct] at FX;generalize MJ:a.eval x=ax at rx;rcases rx.vR with⟨hy,va,vb,rfl,yL,yK,hra,hrb⟩|⟨_,_,e9,_⟩
  case inr=>cases e9
  ·rw[dw] at yL yK;have c1:Jm (Rd X φ w) φ N as va:=⟨yL,fun i x v hx hv=>hra i _ v (by rw[<-kh N gV.1,n9,hx]; rfl) hv⟩;have c3:Jm (Rd X φ w) φ N bs vb:=⟨yK,fun i x v hx hv=>hrb i _ v (by rw[<-kh N gV.2,n9,hx]; rfl) hv⟩;refine⟨va++ca.args.map a.eval++vb,?_,(c1.append e1).append c3,qJ (qJ FX.1 e2) FX.2.1⟩;simp only[execOp,eI,resolve,BT,MJ,Deferred.ofValue,invoke,Sem.run_bind,Sem.run_pure,Result.andThen_ok];exact xL cW hf _
mutual
theorem Rb {R:Addr->Value->Prop} {φ:cX} (N:Names):∀(x:AV) {v:Value},bD R φ (cu N x) v->bD R φ (cu N (Rc x)) v
 |.du k p off n,v,r=>by
   unfold Rc;split
   ·rename_i h; subst h;simp only[cu] at r ⊢;split at r
    ·cases r with
     |sl _ _ _ _ _ a cap hb hc h=>exact .uU _ _ _ _ _ _ (fun _ _=>undef) rfl hc (fun x hx=>by simp at hx) (fun i j x c hx=>by simp at hx) (fun i j x c hx=>by simp at hx)
    ·cases r; exact .j5 _ _
   ·exact r
 |.agg cs,v,r=>by
   simp only[Rc,cu] at r ⊢;cases r with
   |agg _ _ vs hl h=>
     obtain⟨l1,l2⟩:=D3 (R:=R) (φ:=φ) N cs;refine .agg _ _ _ (by rw[dw,l1,<-dw N cs]; exact hl) fun i c u hc hu=>?_;rw[lV] at hc;cases e:(zI cs)[i]? with
     |none=>rw[e] at hc; cases hc
     |some y=>
       rw[e] at hc;simp only[bV,af] at hc;subst hc;obtain⟨x,hx⟩:=aS (l:=cs) (i:=i) (by have:=aj e; omega);exact l2 i x y u hx e (h i _ u (by rw[lV,hx]; rfl) hu)
 |.any,v,r=>r|.undef,v,r=>r|.fg,v,r=>r|.fj,v,r=>r|.di,v,r=>r
 |.int _ _,v,r=>r|.bool _,v,r=>r|.str _,v,r=>r|.dA _,v,r=>r
 |.list _ _,v,r=>r|.de _,v,r=>r|.ptr _ _,v,r=>r|.sl _ _ _ _,v,r=>r
 |.func _ _ _,v,r=>r|.own _ _,v,r=>r|.eR _ _ _ _,v,r=>r
theorem D3 {R:Addr->Value->Prop} {φ:cX} (N:Names):∀(cs:List AV),(zI cs).length=cs.length/\∀ (i:Nat) (x y:AV) (v:Value),cs[i]?=some x->(zI cs)[i]?=some y->bD R φ (cu N x) v->bD R φ (cu N y) v
 |[]=>⟨rfl,fun i x y v hx=>by simp at hx⟩
 |c::r=>by
   obtain⟨l1,l2⟩:=D3 (R:=R) (φ:=φ) N r;refine⟨by simp[zI,l1],fun i x y v hx hy rr=>?_⟩;cases i with
   |zero=>simp[zI] at hx hy; subst hx; subst hy; exact Rb N c rr
   |succ i=>exact l2 i x y v (by simpa using hx) (by simpa[zI] using hy) rr
end
theorem V5 {R:Addr->Value->Prop} {φ:cX} (N:Names) (x:AV) {v:Value} (r:bD R φ (fS N x) v):bD R φ (fS N (Rc x)) v:=by
 by_cases h:∃k xs,x=.own k xs
 ·obtain⟨k,xs,rfl⟩:=h;simpa[Rc] using r
 ·have e1:fS N x=cu N x:=by cases x<;>first|rfl|exact absurd ⟨_,_,rfl⟩ h
  have e2:fS N (Rc x)=cu N (Rc x):=by
   cases x<;>simp only[Rc]<;>first|rfl|exact absurd ⟨_,_,rfl⟩ h|(split<;>rfl)
  rw[e2];rw[e1] at r;exact Rb N x r
mutual
theorem adp {o:Rt->Option (Nat × List AV)} {nb:Nat}:∀(x:AV),ct o nb x->ct o nb (Rc x)
 |.du k p off n,h=>by
   unfold Rc;split
   ·trivial
   ·exact h
 |.agg cs,h=>by
   simp only[Rc,ct] at h ⊢;exact Iq cs h
 |.any,h=>h|.undef,h=>h|.fg,h=>h|.fj,h=>h|.di,h=>h
 |.int _ _,h=>h|.bool _,h=>h|.str _,h=>h|.dA _,h=>h
 |.list _ _,h=>h|.de _,h=>h|.ptr _ _,h=>h|.sl _ _ _ _,h=>h
 |.func _ _ _,h=>h|.own _ _,h=>h|.eR _ _ _ _,h=>h
theorem Iq {o:Rt->Option (Nat × List AV)} {nb:Nat}:∀(cs:List AV),jX o nb cs->jX o nb (zI cs)
 |[],_=>trivial
 |x::r,h=>⟨adp x h.1,Iq r h.2⟩
end
theorem KB:∀(cs:List AV) (i:Nat),(zI cs)[i]?=(cs[i]?).map Rc
 |[],i=>by simp[zI]
 |x::r,i=>by cases i<;>simp[zI,KB r]
theorem yR (cW:eM P c) (h:dY X φ w N s Ha (tm a)) (hg:Am.dD (ga c) X φ w) (hk:cG P o.op (kz kd)=true) {f:Nat} {args:List AV} (ha:getArgs c s.env kd=some (f,args)) {md:Md} {q:gR} (hf:c.fn f=some (md,q)) :
  ∃ vargs:Array Value,(execOp a.eval o).run P w=.ok (.enter f vargs) w/\Jm (Rd X φ w) φ N args vargs/\jX (aq s) s.H.length args:=by
 unfold getArgs at ha;cases h0:oU c s.env kd with
 |none=>rw[h0] at ha; cases ha
 |some z=>
   obtain⟨f0,ab7⟩:=z;rw[h0] at ha;simp only[af,aA] at ha;obtain⟨rfl,rfl⟩:=ha;obtain⟨vargs,h1,h2,h3⟩:=oX cW h hg hk h0 hf;refine⟨vargs,h1,?_⟩;split
   ·refine⟨⟨?_,fun i x v hx hv=>?_⟩,Iq _ h3⟩
    ·have l1:=(D3 (R:=Rd X φ w) (φ:=φ) N ab7).1;rw[l1]; exact h2.1
    ·rw[KB] at hx;cases e:ab7[i]? with
     |none=>rw[e] at hx; cases hx
     |some y=>
       rw[e] at hx;simp only[bV,af] at hx;subst hx;exact V5 N y (h2.2 i y v e hv)
   ·exact⟨h2,h3⟩
theorem xX (N:Names) (i:Nat) {x:AV} (h:pl x=true):jW N i x=x:=by
 by_cases ha:∃cs,x=.agg cs
 ·obtain⟨cs,rfl⟩:=ha;simp only[jW];simp only[pl] at h;congr 1;apply dq;intro j;rw[fy];cases hc:cs[j]? with
  |none=>rfl
  |some d=>
    simp only[bV]
    have hd:pl d=true:=by
     have:∀{l:List AV},eC l=true->∀z∈l,pl z=true:=by
      intro l
      induction l with
      |nil=>intro _ z hz; simp at hz
      |cons y r ih=>
        intro h z hz;simp only[eC,ae] at h;rcases aK.1 hz with e|e
        ·subst e; exact h.1
        ·exact ih h.2 z e
     exact this h d (aU hc)
    congr 1;cases d<;>first|exact kg N _ hd|(simp[pl] at hd; done)
 ·have hn:ja x:=fun cs e=>ha ⟨cs,e⟩;cases x<;>first|exact kg N _ h|exact absurd rfl (hn _)|(simp[pl] at h; done)
theorem SB.start {args:List AV} {vargs:Array Value} (hx:∀g,X g->g<w.heap.size) (hp:eC args=true) (hl:args.length=vargs.size) (hr:∀(i:Nat) (x:AV) (v:Value),args[i]?=some x->vargs[i]?=some v->bD (Rd X [] w) [] x v) (B:Nat->Nat) :
  SB X [] w B 0 ⟨dL 0 args,[]⟩ (fun i=>vargs.getD i undef):=by
 have Aq:∀i,get (dL 0 args) i=args[i]?.getD .any:=fun i=>by rw[ta]; simp
 have mX:∀i,pl (get (dL 0 args) i)=true:=fun i=>by
  rw[Aq];cases e:args[i]? with
  |none=>rfl
  |some x=>exact fR hp i x e
 have gV:∀p,aq ⟨dL 0 args,[]⟩ p=none:=by
  intro p;cases p with
  |s i=>exact (dK (s:=⟨dL 0 args,[]⟩) (tB (mX i))).1
  |sc i j=>exact (dK (s:=⟨dL 0 args,[]⟩) (tB (mX i))).2 j
  |c b j=>unfold aq; simp[at_,aN]
 refine⟨⟨fun _=>0,fun _=>none⟩,[],⟨fun i=>?_,fun i=>uE _ (mX i),⟨rfl,hx,fun b cs hb=>by simp at hb,fun b hb=>by simp at hb,fun b b' g sz o0 h1=>by simp at h1⟩,fun p k xs e=>?_,fun b cs e=>?_,fun p q n e1=>?_,fun b p e1=>?_,fun b d e1=>?_⟩,fun b hb=>by omega,Jn _⟩
 ·rw[xX _ _ (mX i),Aq];cases e:args[i]? with
  |none=>exact .any _ _
  |some x=>
    obtain⟨v,hv⟩:=bP (l:=vargs) (i:=i) (by have:=aj e; omega);simp only[eX];rw[aW,hv];exact hr i x v e hv
 ·rw[gV] at e; cases e
 ·simp[aN] at e
 ·rw[gV] at e1; cases e1
 ·simp[aN] at e1
 ·simp[aN] at e1
end
end Go.Bm

/- Calls of functions that see no boxes: what comes back. -/
namespace Go.Bm
open Go.Am
mutual
theorem Bl {R R':Addr->Value->Prop} {φ φ':cX} {N N':Names}:∀x,clean x=true->∀v,bD R φ (cu N x) v->bD R' φ' (cu N' x) v
 |.list k xs,h,v,r=>by
   simp only[clean,eY] at h;subst h;simp only[cu] at r ⊢;cases r with
   |uU _ _ _ a n cap u hn iO hk hu hh=>subst hn; exact .uU _ _ _ _ _ _ u rfl iO hk (fun i j x c hx=>by simp at hx) (fun i j x c hx=>by simp at hx)
   |j5=>exact .j5 _ _
 |.agg cs,h,v,r=>by
   simp only[clean] at h;simp only[cu] at r ⊢;cases r with
   |agg _ _ vs hl hh=>exact .agg _ _ _ (by rw[dw] at hl ⊢; exact hl) (fun i d u hd hu=>yT cs h i d u hd (fun z hz=>hh i z u hz hu))
 |.dA cs,h,v,r=>by
   simp only[clean] at h;simp only[cu] at r ⊢;cases r with
   |dA _ _ vs hl hh=>exact .dA _ _ _ (by rw[dw] at hl ⊢; exact hl) (fun i d u hd hu=>yT cs h i d u hd (fun z hz=>hh i z u hz hu))
 |.own _ _,_,v,_=>.any _ _
 |.de _,h,_,_=>by simp[clean] at h
 |.any,h,_,_=>by simp[clean] at h
 |.func _ _ _,h,_,_=>by simp[clean] at h
 |.du _ _ _ _,h,_,_=>by simp[clean] at h
 |.eR _ _ _ _,h,_,_=>by simp[clean] at h
 |.ptr _ _,h,_,_=>by simp[clean] at h
 |.sl _ _ _ _,h,_,_=>by simp[clean] at h
 |.undef,_,v,r=>by simp only[cu] at r ⊢; cases r; exact .undef _
 |.fg,_,v,r=>by simp only[cu] at r ⊢; cases r; exact .fg _
 |.fj,_,v,r=>by simp only[cu] at r ⊢; cases r; exact .fj _
 |.di,_,v,r=>by simp only[cu] at r ⊢; cases r; exact .di _
 |.int _ _,_,v,r=>by simp only[cu] at r ⊢; cases r; exact .int _ _ _
 |.bool _,_,v,r=>by simp only[cu] at r ⊢; cases r; exact .bool _ _
 |.str _,_,v,r=>by simp only[cu] at r ⊢; cases r; exact .str _ _
theorem yT {R R':Addr->Value->Prop} {φ φ':cX} {N N':Names}:∀cs,gn cs=true->∀(i:Nat) (d:AV) (u:Value),(kj N' cs)[i]?=some d->(∀z,(kj N cs)[i]?=some z->bD R φ z u)->bD R' φ' d u
 |[],_,i,d,u,h,_=>by simp[kj] at h
 |x::r,hc,i,d,u,h,hz=>by
   simp only[gn,ae] at hc;cases i with
   |zero=>simp[kj] at h hz; subst h; exact Bl x hc.1 u hz
   |succ i=>simp[kj] at h hz; exact yT r hc.2 i d u h hz
end
mutual
theorem Mf {o:Rt->Option (Nat × List AV)} {nb:Nat}:∀x,clean x=true->ct o nb x
 |.list _ _,_=>trivial
 |.agg cs,h=>by simp only[clean] at h; exact Bn cs h
 |.dA cs,h=>by simp only[clean] at h; exact Bn cs h
 |.own _ _,_=>trivial
 |.de _,h=>by simp[clean] at h
 |.any,h=>by simp[clean] at h
 |.func _ _ _,h=>by simp[clean] at h
 |.du _ _ _ _,h=>by simp[clean] at h
 |.eR _ _ _ _,h=>by simp[clean] at h
 |.ptr _ _,h=>by simp[clean] at h
 |.sl _ _ _ _,h=>by simp[clean] at h
 |.undef,_=>trivial
 |.fg,_=>trivial
 |.fj,_=>trivial
 |.di,_=>trivial
 |.int _ _,_=>trivial
 |.bool _,_=>trivial
 |.str _,_=>trivial
theorem Bn {o:Rt->Option (Nat × List AV)} {nb:Nat}:∀cs,gn cs=true->jX o nb cs
 |[],_=>trivial
 |x::r,h=>by simp only[gn,ae] at h; exact⟨Mf x h.1,Bn r h.2⟩
end
theorem Mg {x:AV} (h:clean x=true):∀d∈x.cells,clean d=true:=by
 have all:∀{l:List AV},gn l=true->∀z∈l,clean z=true:=by
  intro l
  induction l with
  |nil=>intro _ z hz; simp at hz
  |cons y r ih=>
    intro h z hz;simp only[gn,ae] at h;rcases aK.1 hz with e|e
    ·subst e; exact h.1
    ·exact ih h.2 z e
 intro d hd;by_cases ha:∃cs,x=.agg cs
 ·obtain⟨cs,rfl⟩:=ha;simp only[clean] at h;exact all h d hd
 ·have:x.cells=[x]:=by cases x<;>first|rfl|exact absurd ⟨_,rfl⟩ ha
  rw[this] at hd;simp at hd;subst hd;exact h
theorem Ox {l:List AV} (h:gn l=true):∀z∈l,clean z=true:=by
 induction l with
 |nil=>intro z hz; simp at hz
 |cons y r ih=>
   intro z hz;simp only[gn,ae] at h;rcases aK.1 hz with e|e
   ·subst e; exact h.1
   ·exact ih h.2 z e
theorem wF (N:Names) (i:Nat) {x:AV} (h:bH x=false):jW N i x=cu N x:=by
 by_cases ha:∃cs,x=.agg cs
 ·obtain⟨cs,rfl⟩:=ha;simp only[bH] at h;simp only[jW,cu];congr 1;apply dq;intro j;rw[fy,lV];cases hc:cs[j]? with
  |none=>rfl
  |some d=>
    simp only[bV];congr 1;have:=BW h d (aU hc);cases d<;>first|rfl|exact absurd rfl (this _ _)
 ·cases x<;>first|rfl|exact absurd ⟨_,rfl⟩ ha|(simp[bH] at h; done)
section
variable {P:Program} {X:Nat->Prop} {φ nY φ':cX} {w w1 w':World} {N N1 N':Names} {s s' s1:St} {Ha H1 Ha':Heap} {t t1 t':Nat->Value} {B:Nat->Nat} {base:Nat} {v va:AV} {v':Value} {c:dM} {o:Oper} {a:Act} {kd:Kd} {call:Nat->List AV->Heap->Option (AV × Heap)}
theorem afT (h:dY X φ w N s Ha t) (hb:(∀b,b<base->N.β b=B b)/\base<=s.H.length) (ad:eT [] w nY w1) {k:Nat} {xs:List AV} {H':Heap} (h1:dY X nY w1 N1 ⟨[(0,.own k xs)],H'⟩ H1 t1) (hc:gn xs=true) :
  ∃ φ',dP X φ' w1 B base s (.own k xs) t (t1 0)/\eT φ w φ' w1:=by
 have ho1:aq ⟨[(0,.own k xs)],H'⟩ (.s 0)=some (k,xs):=rfl;have eG:=h1.own (.s 0) k xs ho1;have hr:=h1.env 0;simp only[Am.get,if_true,jW,iJ,qI] at hr;cases hn:N1.ν (.s 0) with
 |none=>
   rw[hn] at eG hr;have hx:xs=[]:=eG;subst hx;refine⟨φ,dP.quiet (h.nN (.of_same ad) (h.heap.of_same ad) h.own (fun _ _=>rfl)) hb trivial (by simp[EO]) ?_,.of_same ad⟩;simp only at hr;simp only[u7];generalize t1 0=z at hr ⊢;cases hr;exact .di _
 |some n1=>
   rw[hn] at eG hr;simp only at hr;obtain⟨g,sz,jT,hX,mY⟩:=wO h1.heap eG;obtain⟨cs,c1,c2,c3,c4⟩:=eG;obtain⟨g',o0,arr,e,f1,f2,f3,f4,f5,f6⟩:=h1.heap.cat c1 (fun g sz q=>hr.Av q);rw[jT] at f1;cases f1;have hgs:w.heap.size<=g:=Nat.le_of_not_lt fun bY=>(ad.keep g bY (bQ.nil g)).2 ⟨n1,sz,jT⟩;have Uu:=iP c3
   have nN:eT φ w (φ++[some (g,sz)]) w1:=by
    refine⟨ad.os,ad.tape,ad.output,ad.drawn,ad.size,fun g0 bY gV=>⟨(ad.keep g0 bY (bQ.nil g0)).1,fun ho=>?_⟩,⟨by simp,fun b p hb hp=>by rwa [au hb] at hp⟩⟩;rcases zw ho with h2|h2
    ·exact gV h2
    ·simp at h2; omega
   have hh:bO X (φ++[some (g,sz)]) w1 (Ha++[some (az xs)]):=by
    refine⟨by simp[h.heap.len],fun g0 hg0=>fM (h.heap.FK g0 hg0) ad.size,fun b ds w8=>?_,fun b w8=>?_,fun b b' g0 Gj sz1 e1 e2=>?_⟩
    ·by_cases bY:b<Ha.length
     ·rw[au bY] at w8;obtain⟨g0,Gj,arr0,e0,p1,p2,p3,p4,p5,p6⟩:=h.heap.live b ds w8;refine⟨g0,Gj,arr0,e0,by rw[au (by rw[h.heap.len]; exact bY)]; exact p1,?_,p3,p4,p5,fun i d hd=>?_⟩
      ·rw[(ad.keep g0 (ff.1 p2).1 (bQ.nil g0)).1]; exact p2
      ·obtain⟨u,u1,u2⟩:=p6 i d hd;exact⟨u,u1,nN.rep u2⟩
     ·have LH:b=Ha.length:=by have:=aj w8; simp at this; omega
      subst LH;simp at w8;subst w8;refine⟨g,sz,arr,_,by rw[<-h.heap.len]; simp,f2,.inl ⟨e,rfl,f3⟩,⟨by omega,fun z=>by omega⟩,hX,fun i d hd=>?_⟩;obtain⟨i',z,j,z1,z2,z3⟩:=(gX c3).2 i d hd;obtain⟨u,u1,u2,u3⟩:=mY i' j z d z1 z2;refine⟨u,by rw[gP f2] at u1; rw[z3]; exact u1,?_⟩;have Ju:=Mg (Ox hc z (aU z1)) d (aU z2);have mX:=(lI u2).1;have:=Bl (N:=N) (N':=N) (R':=Rd X (φ++[some (g,sz)]) w1) (φ':=φ++[some (g,sz)]) d Ju u (by rw[kg N _ mX]; exact u3)
      rwa [kg N _ mX] at this
    ·by_cases bY:b<Ha.length
     ·rw[au bY] at w8;rw[au (by rw[h.heap.len]; exact bY)];exact h.heap.dead b w8
     ·have LH:b=Ha.length:=by have:=aj w8; simp at this; omega
      subst LH;simp at w8
    ·have new:∀(b g0 Gj:Nat),(φ++[some (g,sz)])[b]?=some (some (g0,Gj))->(b<φ.length/\φ[b]?=some (some (g0,Gj))/\g0<w.heap.size)\/(b=φ.length/\g0=g):=by
      intro b g0 Gj hb;by_cases bY:b<φ.length
      ·rw[au bY] at hb;exact .inl ⟨bY,hb,(h.heap.gU ⟨b,Gj,hb⟩).1⟩
      ·have iU:=aj hb;simp at iU;have LH:b=φ.length:=by omega
       subst LH;simp at hb;exact .inr ⟨rfl,hb.1.symm⟩
     rcases new b g0 Gj e1 with⟨l1,q1,g1⟩|⟨l1,g1⟩<;>rcases new b' g0 sz1 e2 with⟨l2,q2,g2⟩|⟨l2,g2⟩
     ·exact h.heap.inj b b' g0 Gj sz1 q1 q2
     ·omega
     ·omega
     ·omega
   refine⟨φ++[some (g,sz)],zZ h hb nN hh (by omega) c3 (fun i d hd=>?_) ?_,nN⟩
   ·obtain⟨i',z,j,z1,z2,z3⟩:=(gX c3).2 i d hd;obtain⟨u,u1,u2,u3⟩:=mY i' j z d z1 z2;exact⟨u2,d,hd,(lI u2).2,Le.refl _⟩
   ·generalize t1 0=z at hr;cases hr with
    |sl _ _ _ _ _ ad' cap iU iO Yl=>
      refine .sl _ _ _ _ _ _ _ (by simp[h.heap.len]) iO fun g0 Gj e0=>?_;rw[<-h.heap.len] at e0;simp at e0;obtain⟨rfl,rfl⟩:=e0;exact Yl g sz jT
theorem Xa {X':Nat->Prop} (hg:Am.dD (ga c) X φ w) (hx:∀g,X' g->X g\/bQ φ g):Am.dD (ga c) X' [] w:=fun g=>(hg g).mono (fun a u ⟨h1,h2,h3⟩=>⟨fun h=>(hx _ h).elim h1 h2,bQ.nil _,h3⟩) (.refl _)
theorem Nw (cW:eM P c) (dI:gC P c call) (h:SB X φ w B base s (tm a)) (hg:Am.dD (ga c) X φ w) (hk:cG P o.op (kz kd)=true) {f:Nat} {args rR:List AV} (ha:getArgs c s.env kd=some (f,args)) {md:Md} {q:gR} (hf:c.fn f=some (md,q)) (iN:md.sh=false) (hz:tP s args=some rR) {r:AV} {H':Heap} (hc:call f rR []=some (r,H')) (hr:Kz r=true):kG P X φ w B base s r o a:=by
 obtain⟨N,Ha,h,hb⟩:=h;obtain⟨vargs,oQ,hA,zU⟩:=yR cW h hg hk ha hf;obtain⟨z1,z2,z3⟩:=EJ h args rR hz zU
 have FE:=SB.start (X:=X) (w:=w) (args:=rR) (vargs:=vargs) h.heap.FK z1 (by rw[z2]; exact hA.1) (fun i x v hx hv=>z3 i x v hx (fun z hz=>by
  rw[n9] at hz;cases IQ:args[i]? with
  |none=>rw[IQ] at hz; cases hz
  |some y=>rw[IQ] at hz; simp at hz; subst hz; exact hA.2 i y v IQ hv)) (fun _=>0)
 have kX:=dI f md q hf rR [] r H' (.inr rfl) hc (fun e=>by rw[iN] at e; cases e) X [] w (fun _=>0) vargs (by rw[z2]; exact hA.1) FE (Xa hg fun g h=>.inl h);intro K Q hK;unfold Oper.wp;rw[oQ,Oper.upon_enter];refine kX.mono ?_;rintro e w1 ⟨v',nY,rfl,⟨N1,H1,gE,_⟩,ad⟩;unfold Kz at hr;simp only[ae] at hr;by_cases ho:∃k xs,r=.own k xs
 ·obtain⟨k,xs,rfl⟩:=ho;obtain⟨φ',hp,ad'⟩:=afT h hb ad gE (by simpa[clean] using hr.1);exact hK v' w1 φ' (by simpa using hp) ad'
 ·have gV:bH r=false:=by
   have:=hr.2;cases r<;>first|exact absurd ⟨_,_,rfl⟩ ho|simpa using this
  refine hK v' w1 φ (dP.quiet (h.nN (.of_same ad) (h.heap.of_same ad) h.own (fun _ _=>rfl)) hb (Mf r hr.1) (lG gV) ?_) (.of_same ad);have r0:=gE.env 0;simp only[Am.get,if_true] at r0;rw[wF N1 0 gV] at r0;rw[kJ N gV];exact Bl r hr.1 v' r0
theorem Nv (cW:eM P c) (dI:gC P c call) (h:SB X φ w B base s (tm a)) (hg:Am.dD (ga c) X φ w) (hk:cG P o.op (kz kd)=true) {f:Nat} {args:List AV} (ha:getArgs c s.env kd=some (f,args)) {md:Md} {q:gR} (hf:c.fn f=some (md,q)) (iN:md.sh=false) (hz:eC (args.map gj)=true) {r:AV} {H':Heap} (hc:call f (args.map gj) []=some (r,H')) (hr:pl r=true):kG P X φ w B base s r o a:=by
 obtain⟨N,Ha,h,hb⟩:=h;obtain⟨vargs,oQ,hA,zU⟩:=yR cW h hg hk ha hf;have Ba:∀a u,Rd X φ w a u->Rd (fun g=>X g\/bQ φ g) [] w a u:=fun a u ⟨h1,h2,h3⟩=>⟨fun h=>h.elim h1 h2,bQ.nil _,h3⟩
 have FE:=SB.start (X:=fun g=>X g\/bQ φ g) (w:=w) (args:=args.map gj) (vargs:=vargs) (fun g hg=>hg.elim (h.heap.FK g) (fun ho=>(h.heap.gU ho).1)) hz (by simpa using hA.1) (fun i x v hx hv=>by
  rw[cF] at hx;cases IQ:args[i]? with
  |none=>rw[IQ] at hx; cases hx
  |some y=>
    rw[IQ] at hx;simp at hx;subst hx;have r0:=hA.2 i y v IQ hv;have hpy:=fR hz i (gj y) (by rw[cF,IQ]; rfl);by_cases ho:∃k,y=.own k []
    ·obtain⟨k,rfl⟩:=ho;simp only[fS] at r0;cases r0;exact .j5 _ _
    ·have hn:gj y=y:=by
      unfold gj;split
      ·rename_i k; exact absurd ⟨k,rfl⟩ ho
      ·rfl
     rw[hn] at hpy ⊢;have hy:fS N y=y:=by cases y<;>first|exact kg N _ hpy|(simp[pl] at hpy; done)
     rw[hy] at r0;exact (r0.dx (fQ _ hpy) []).mono Ba (.refl _)) (fun _=>0)
 have kX:=dI f md q hf (args.map gj) [] r H' (.inr rfl) hc (fun e=>by rw[iN] at e; cases e) (fun g=>X g\/bQ φ g) [] w (fun _=>0) vargs (by simpa using hA.1) FE (Xa hg fun g h=>h);intro K Q hK;unfold Oper.wp;rw[oQ,Oper.upon_enter];refine kX.mono ?_;rintro e w1 ⟨v',nY,rfl,⟨N1,H1,gE,_⟩,ad⟩;have gV:=tB hr;refine hK v' w1 φ (dP.quiet (h.nN (.of_same ad) (h.heap.of_same ad) h.own (fun _ _=>rfl)) hb (uE r hr) (lG gV) ?_) (.of_same ad);have r0:=gE.env 0;simp only[Am.get,if_true] at r0;rw[xX N1 0 hr] at r0;rw[kJ N gV,kg N _ hr];exact ((r0.dx (fQ _ hr) []).mono (fun a u ⟨h1,_,h3⟩=>⟨fun h=>h1 (.inl h),fun h=>h1 (.inr h),h3⟩) (.refl _)).GR φ
end
end Go.Bm

/- Regions in the order of the text; their ends. -/
namespace Go.Bm
open Go.Am
section
variable {P:Program} {X:Nat->Prop} {φ nY φ':cX} {w w1 w':World} {N1 N':Names} {s s' s1:St} {B:Nat->Nat} {base:Nat} {v va:AV} {v':Value} {c:dM} {o:Oper} {a:Act} {kd:Kd} {call:Nat->List AV->Heap->Option (AV × Heap)}
structure An (X:Nat->Prop) (φ:cX) (w:World) (B:Nat->Nat) (base:Nat) (s:St) (a:Act) (N:Nat):Prop where
 sb:SB X φ w B base s (tm a)
 defers:a.defers=[]
 size:a.tmps.size=N
theorem ach {a:Act} {d:Option Nat} {v':Value} (hd:∀i,d=some i->i<a.tmps.size) (j:Nat):tm (a.put d v') j=if some j=d then v' else tm a j:=by
 cases d with
 |none=>simp[tm,Act.put]
 |some i=>
   have hi:=hd i rfl;simp only[tm,Act.put,aW];by_cases e:j=i
   ·subst e; simp[hi]
   ·simp[hZ (Ne.symm e),e]
theorem An.put {N:Nat} (h:An X φ w B base s a N) (hN:N<=eW) {d:Option Nat} (hd:∀i,d=some i->i<N) (hp:dP X φ' w' B base s1 v (tm a) v') (hs:xM s1 d v=some s'):∃pe,An X pe w' B base s' (a.put d v') N/\eT φ' w' pe w':=by
 obtain⟨pe,h1,a1⟩:=YQ (t':=tm (a.put d v')) hp hs (fun e=>by have:=hd eW e; omega) (fun j=>ach (fun i hi=>by rw[h.size]; exact hd i hi) j);obtain⟨h2,h3⟩:=Vn a d v';exact⟨pe,⟨h1,by rw[h3]; exact h.defers,by rw[h2]; exact h.size⟩,a1⟩
theorem dP.undef (h:SB X φ w B base s (tm a)):dP X φ w B base s .undef (tm a) Um:=by
 obtain⟨N,Ha,h,hb⟩:=h;exact dP.quiet h hb trivial trivial (.undef _)
theorem JJ {N:Nat} {ops:Array Oper} {q:O} {fl:Fq} (eI:∀v s1 f,eO c call s q.kd=some (v,s1,f)->kG P X φ w B base s1 v o a) (hc:I9 P N ops o (L7 q)=true) (hN:N<=eW)
  (hs:rA c call s q=some (s',fl)) (hr:An X φ w B base s a N) {K:Act->World->Prop} {Q:Exit->Act->World->Prop} (hK:∀a' w' φ',An X φ' w' B base s' a' N->eT φ w φ' w'->K a' w') :
  if Region.wanted o (yielded ops a.tmps) then o.wp P a w K Q\/(o.asks P a w/\LetsOut Q) else K (a.put o.dst Um) w:=by
 simp only[I9,L7,ae,decide_eq_true_eq] at hc;obtain⟨⟨⟨afJ,hd⟩,hgd⟩,_⟩:=hc;have hdst:o.dst=q.dst:=of_decide_eq_true afJ
 have hd':∀i,o.dst=some i->i<N:=by
  intro i hi;rw[<-hdst,hi] at hd;simpa using hd
 have run:∀{v s1 f fl'},eO c call s q.kd=some (v,s1,f)->z8 s.env q.dst v s1 f=some (s',fl')->o.wp P a w K Q:=by
  intro v s1 f fl' hv hf;unfold z8 at hf;split at hf
  case h_2=>cases hf
  rename_i s2 hp;simp only[af,aA] at hf;obtain⟨rfl,_⟩:=hf;refine eI v s1 f hv K Q fun v' w' φ' yJ ad=>?_;rw[<-hdst] at hp;obtain⟨pe,h1,a1⟩:=hr.put hN hd' yJ hp;exact hK _ _ pe h1 (ad.trans a1)
 have no:∀{fl'},z8 s.env q.dst .undef s .no=some (s',fl')->K (a.put o.dst Um) w:=by
  intro fl' hf;unfold z8 at hf;split at hf
  case h_2=>cases hf
  rename_i s2 hp;simp only[af,aA] at hf;obtain⟨rfl,_⟩:=hf;rw[<-hdst] at hp;obtain⟨pe,h1,a1⟩:=hr.put hN hd' (dP.undef hr.sb) hp;exact hK _ _ pe h1 a1
 have afB:∀(g:Nat),∃N1 Ha,bD (Rd X φ w) φ (jW N1 g (get s.env g)) (tm a g)/\dY X φ w N1 s Ha (tm a):=fun g=>by
  obtain⟨N1,Ha,h,_⟩:=hr.sb;exact⟨N1,Ha,h.env g,h⟩
 unfold rA at hs;split at hs
 ·rename_i hgn;rw[hgn] at hgd;split at hgd
  ·rename_i h1 _;rw[if_pos (by simp[Region.wanted,h1])];split at hs
   ·rename_i v s1 f hv;exact .inl (run hv hs)
   ·cases hs
  ·rename_i h2; simp at h2
  ·cases hgd
 ·rename_i g want hgn;rw[hgn] at hgd;split at hgd
  ·rename_i h2; simp at h2
  ·rename_i j aaZ g' afU h1 h2;simp only[ae,decide_eq_true_eq] at hgd;obtain⟨hj,rfl⟩:=hgd;simp at h2;obtain⟨rfl,rfl⟩:=h2;obtain⟨N1,Ha,EA,_⟩:=afB g;split at hs
   ·rename_i b hb;rw[hb] at EA;simp only[jW,iJ,cu] at EA;have hv:=lZ EA;have hy:yielded ops a.tmps j=some b:=by unfold yielded; rw[hj]; simp only[Ul]; rw[TP hv]
    by_cases NV:b=want
    ·subst NV;rw[if_pos (by simp[Region.wanted,h1,hy])];simp only[if_true] at hs;split at hs
     ·rename_i v s1 f hv;exact .inl (run hv hs)
     ·cases hs
    ·rw[if_neg (by simp[Region.wanted,h1,hy,NV])];rw[if_neg NV] at hs;exact no hs
   ·rename_i hb;rw[hb] at EA;simp only[jW,iJ,cu] at EA;generalize hv:tm a g=vg at EA;cases EA
    have hy:yielded ops a.tmps j=none:=by
     unfold yielded;rw[hj];simp only[Ul];rcases N0 hv with h|h<;>rw[h]
    rw[if_neg (by simp[Region.wanted,h1,hy])];exact no hs
   ·cases hs
  ·cases hgd
def HJ (P:Program) (c:dM) (call:Nat->List AV->Heap->Option (AV × Heap)):Prop:=
 ∀ X φ w B base s o a kd v s1 f,cG P o.op (kz kd)=true->eO c call s kd=some (v,s1,f)->SB X φ w B base s (tm a)->Am.dD (ga c) X φ w->kG P X φ w B base s1 v o a
theorem Q0 (Bc:HJ P c call) {N:Nat} (hN:N<=eW) {ops:Array Oper} {Q:Exit->Act->World->Prop}:∀(l:List Oper) (qs:List O) (k:Nat) (s s':St) (pX:List Fq) (a:Act) (w:World) (φ:cX),
  (∀j,l[j]?=ops[k+j]?)->qW P N ops l qs=true->my c call qs s=some (s',pX)->An X φ w B base s a N->Am.dD (ga c) X φ w->(∀a' w' φ',An X φ' w' B base s' a' N->eT φ w φ' w'->Q .normal a' w') ->
  wpOps P ops Q (List.range' k l.length) a w
 |[],qs,k,s,s',pX,a,w,φ,_,hc,hs,hr,hg,hQ=>by
   cases qs with
   |nil=>
     simp[my] at hs;obtain⟨rfl,rfl⟩:=hs;exact hQ a w φ hr (.refl _ _)
   |cons q r=>simp[qW] at hc
 |o::l,qs,k,s,s',pX,a,w,φ,hl,hc,hs,hr,hg,hQ=>by
   cases qs with
   |nil=>simp[qW] at hc
   |cons q r=>
     simp only[qW,ae] at hc;simp only[my] at hs;split at hs
     case h_2=>cases hs
     rename_i s1 fl1 h1;split at hs
     case h_2=>cases hs
     rename_i s2 fl2 h2;simp at hs;obtain⟨rfl,rfl⟩:=hs;have h0:ops[k]?=some o:=by simpa using (hl 0).symm
     rw[dz,List.range'_succ,wpOps_cons];unfold wpOp;rw[h0]
     have hck:cG P o.op (kz q.kd)=true:=by
      have:=hc.1;simp only[I9,L7,ae] at this;exact this.2
     refine JJ (fun v s1 f hv=>Bc X φ w B base s o a q.kd v s1 f hck hv hr.sb hg) hc.1 hN h1 hr fun a' w' φ' uG k'=>?_;exact Q0 Bc hN l r (k+1) s1 s2 fl2 a' w' φ' (fun j=>by have:=hl (j+1); simpa[Nat.add_assoc,Nat.add_comm 1 j] using this) hc.2 h2 uG (hg.nN k') fun a'' Uo pe h'' wW=>hQ a'' Uo pe h'' (k'.trans wW)
theorem BX {keep:List Nat}:∀{e:Env},rL keep e=false->∀i,mem i keep=false->bH (get e i)=false
 |[],_,i,_=>rfl
 |(j,v)::r,h,i,hi=>by
   simp only[rL,dZ] at h;simp only[Am.get];split
   ·rename_i e;subst e;rw[hi] at h;simpa using h.1
   ·exact BX h.2 i hi
theorem BZ (keep:List Nat):∀(env:Env) (i:Nat),get (qO keep env) i=if mem i keep=true then get env i else .any
 |[],i=>by simp[qO,Am.get]
 |(j,u)::r,i=>by
   have ih:=BZ keep r i;unfold qO;split
   ·rename_i hm;simp only[Am.get];by_cases e:i=j
    ·subst e; simp[hm]
    ·rw[if_neg e,if_neg e]; exact ih
   ·rename_i hm;rw[ih];simp only[Am.get];by_cases e:i=j
    ·subst e; simp[hm]
    ·rw[if_neg e]
theorem RV {t:Nat->Value} (h:SB X φ w B base s t) {keep:List Nat} (ho:rL keep s.env=false):SB X φ w B base (Xs base keep s) t:=by
 obtain⟨N,Ha,h,hb,hl⟩:=h
 have h1:dY X φ w N ⟨qO keep s.env,s.H⟩ Ha t:=h.keep (fun i=>by
  rw[BZ];cases hm:mem i keep with
  |true=>exact .inl (by simp)
  |false=>exact .inr ⟨by simp,BX ho i hm⟩) rfl
 refine⟨N,Ha,h1.trim (base0:=base) s.H.length,hb,?_⟩
 have len:∀(n:Nat) (H:Heap),base<=H.length->base<=(trim base (qO keep s.env) n H).length:=by
  intro n
  induction n with
  |zero=>intro H h; exact h
  |succ n ih=>
    intro H h;simp only[trim];split
    ·rename_i hc;exact ih _ (by simp; omega)
    ·exact h
 exact len _ _ hl
theorem aag {t:Nat->Value} (h:SB X φ w B base s t) {keep:List Nat} (he:Oe base keep s=some s'):∃φ',SB X φ' w B base s' t/\eT φ w φ' w:=by
 unfold Oe at he;split at he
 ·split at he
  ·cases he
  rename_i ho;simp at he ho;subst he;obtain⟨nY,h1,a1⟩:=SB.nS keep s.env h;exact⟨nY,RV h1 ho,a1⟩
 ·rename_i ho;simp at he ho;subst he;exact⟨φ,RV h ho,.refl _ _⟩
end
end Go.Bm

/- A run of the compact code by value is a run of the dump's code. -/
namespace Go.Bm
open Go.Am
section
variable {P:Program} {c:dM}
def Fx (P:Program) (c:dM) (call:Nat->List AV->Heap->Option (AV × Heap)):Prop:=
 ∀ X φ w B base s s' pX a N id ops os un (Q:Exit->Act->World->Prop),N<=eW->qW P N ops ops.toList os=true->nI un [] [] ops.toList os=true->my c call os s=some (s',pX)->Hj os pX un=true->An X φ w B base s a N->Am.dD (ga c) X φ w ->
  (∀a' w' φ',An X φ' w' B base s' a' N->eT φ w φ' w'->Q .normal a' w')->(Code.region id ops true).wp P Q a w
def Mt (P:Program) (c:dM) (n:Nat):Prop:=∀(N base:Nat) (code:Code) (cd:C) (s s':St) (e:Ex),N<=eW->F5 P N code cd=true->cE c n base cd s=some (e,s')->∀X φ w B a,An X φ w B base s a N->Am.dD (ga c) X φ w ->
 ∀ Q:Exit->Act->World->Prop,(∀a' w' φ',An X φ' w' B base s' a' N->eT φ w φ' w'->Q e.to a' w')->code.wp P Q a w
theorem C3 (H1:∀call,gC P c call->HJ P c call) (H2:∀call,gC P c call->Fx P c call) (H3:∀n,Mt P c n->gC P c (mL c (cE c n))):∀n,Mt P c n
 |0=>fun N base code cd s s' e _ _ h=>by simp[cE] at h
 |n+1=>by
   have ih:=C3 H1 H2 H3 n;have dI:=H3 n ih;intro N base code cd s s' e hN hc h X φ w B a hr hg Q hQ;unfold F5 at hc;split at hc
   case h_1=>simp[cE] at h; obtain⟨rfl,rfl⟩:=h; exact wp_skip (hQ a w φ hr (.refl _ _))
   case h_2=>simp[cE] at h; obtain⟨rfl,rfl⟩:=h; exact wp_ret (hQ a w φ hr (.refl _ _))
   case h_3=>
    simp only[decide_eq_true_eq] at hc;subst hc;simp[cE] at h; obtain⟨rfl,rfl⟩:=h; exact wp_exit (hQ a w φ hr (.refl _ _))
   case h_4=>
    rename_i id ops d os dr un keep;simp only[ae,decide_eq_true_eq] at hc;obtain⟨⟨rfl,dB⟩,ho⟩:=hc;simp only[cE] at h;split at h
    case h_2=>cases h
    rename_i s1 pX hs;split at h
    case isFalse=>cases h
    rename_i hd;split at h
    case h_2=>cases h
    rename_i s2 he;simp at h;obtain⟨rfl,rfl⟩:=h
    have hQ':∀a' w' φ',An X φ' w' B base s1 a' N->eT φ w φ' w'->Q .normal a' w':=fun a' w' φ' h k=>by
     obtain⟨pe,h2,a2⟩:=aag h.sb he;exact hQ a' w' pe ⟨h2,h.defers,h.size⟩ (k.trans a2)
    cases d with
    |false=>
      refine wp_region ?_;rw[List.range_eq_range',<-Array.length_toList];exact Q0 (H1 _ dI) hN ops.toList os 0 s s1 pX a w φ (fun j=>by simp) dB hs hr hg hQ'
    |true=>
      simp at ho;exact H2 _ dI X φ w B base s s1 pX a N id ops os un Q hN dB ho hs (by simpa using hd) hr hg hQ'
   case h_5=>
    rename_i x y cx cy;simp only[ae] at hc;simp only[cE] at h;refine wp_seq ?_;cases h1:cE c n base cx s with
    |none=>rw[h1] at h; cases h
    |some p=>
      obtain⟨e1,s1⟩:=p;rw[h1] at h;cases e1 with
      |normal=>
        simp only at h;exact ih N base x cx s s1 .normal hN hc.1 h1 X φ w B a hr hg _ fun a' w' φ' uG k=>ih N base y cy s1 s' e hN hc.2 h X φ' w' B a' uG (hg.nN k) Q fun a'' Uo pe WQ wW=>hQ a'' Uo pe WQ (k.trans wW)
      |exit id=>simp at h; obtain⟨rfl,rfl⟩:=h; exact ih N base x cx s s1 _ hN hc.1 h1 X φ w B a hr hg _ fun a' w' φ' uG k=>hQ a' w' φ' uG k
      |ret=>simp at h; obtain⟨rfl,rfl⟩:=h; exact ih N base x cx s s1 _ hN hc.1 h1 X φ w B a hr hg _ fun a' w' φ' uG k=>hQ a' w' φ' uG k
   case h_6=>
    rename_i x ca cb y da db;simp only[ae] at hc;simp only[cE] at h;split at h
    case h_2=>cases h
    rename_i t ht
    have r:a.eval x=.bool t:=by
     obtain⟨N1,Ha,ZN,_⟩:=hr.sb;have ho:=cc (c:=c) (cA:=ga c) ZN rfl hc.1.1;have:=bL (c:=ga c) (env:=ze N1 s.env) (a:=a) (fun i=>by rw[mF]; exact ZN.env i) hg hc.1.1;rw[ho.ev,ht] at this;exact lZ this
    refine wp_cond (t:=t) r ?_;cases t with
    |true=>simp at h ⊢; exact ih N base ca da s s' e hN hc.1.2 h X φ w B a hr hg Q hQ
    |false=>simp at h ⊢; exact ih N base cb db s s' e hN hc.2 h X φ w B a hr hg Q hQ
   case h_7=>
    rename_i i b j x;simp only[ae,decide_eq_true_eq] at hc;obtain⟨rfl,hc⟩:=hc;simp only[cE] at h;refine wp_block ?_;cases h1:cE c n base x s with
    |none=>rw[h1] at h; cases h
    |some p=>
      obtain⟨e1,s1⟩:=p;rw[h1] at h;refine ih N base b x s s1 e1 hN hc h1 X φ w B a hr hg _ fun a' w' φ' uG k=>?_;cases e1 with
      |normal=>simp at h; obtain⟨rfl,rfl⟩:=h; exact hQ a' w' φ' uG k
      |ret=>simp at h; obtain⟨rfl,rfl⟩:=h; exact hQ a' w' φ' uG k
      |exit id=>
        simp only at h;split at h
        ·rename_i hid;simp at h; obtain⟨rfl,rfl⟩:=h;simp only[Ex.to,Exit.inBlock,hid,if_true];exact hQ a' w' φ' uG k
        ·rename_i hid;simp at h; obtain⟨rfl,rfl⟩:=h;simp only[Ex.to,Exit.inBlock,hid,if_false];exact hQ a' w' φ' uG k
   case h_8=>
    rename_i b x;simp only[cE] at h
    have key:∀m,m<=n->∀s a w φ,cE c m base (.loop x) s=some (e,s')->An X φ w B base s a N->Am.dD (ga c) X φ w->(∀a' w' φ',An X φ' w' B base s' a' N->eT φ w φ' w'->Q e.to a' w')->LW P b Q a w:=by
     intro m
     induction m with
     |zero=>intro _ s a w φ h; simp[cE] at h
     |succ m ihm=>
       intro hm s a w φ h hr hg hQ;simp only[cE] at h;refine LW.step ?_;have TD:Mt P c m:=C3 H1 H2 H3 m;cases h1:cE c m base x s with
       |none=>rw[h1] at h; cases h
       |some p=>
         obtain⟨e1,s1⟩:=p;rw[h1] at h;refine TD N base b x s s1 e1 hN hc h1 X φ w B a hr hg _ fun a' w' φ' uG k=>?_;cases e1 with
         |normal=>simp only at h; exact ihm (by omega) s1 a' w' φ' h uG (hg.nN k) fun a'' Uo pe WQ wW=>hQ a'' Uo pe WQ (k.trans wW)
         |exit id=>simp at h; obtain⟨rfl,rfl⟩:=h; exact hQ a' w' φ' uG k
         |ret=>simp at h; obtain⟨rfl,rfl⟩:=h; exact hQ a' w' φ' uG k
    refine LW.loop (LW.step ?_);cases h1:cE c n base x s with
    |none=>rw[h1] at h; cases h
    |some p=>
      obtain⟨e1,s1⟩:=p;rw[h1] at h;refine ih N base b x s s1 e1 hN hc h1 X φ w B a hr hg _ fun a' w' φ' uG k=>?_;cases e1 with
      |normal=>simp only at h; exact key n (aG _) s1 a' w' φ' h uG (hg.nN k) fun a'' Uo pe WQ wW=>hQ a'' Uo pe WQ (k.trans wW)
      |exit id=>simp at h; obtain⟨rfl,rfl⟩:=h; exact hQ a' w' φ' uG k
      |ret=>simp at h; obtain⟨rfl,rfl⟩:=h; exact hQ a' w' φ' uG k
   case h_9=>simp[cE] at h; obtain⟨rfl,rfl⟩:=h; exact wp_label (hQ a w φ hr (.refl _ _))
   case h_10=>
    rename_i b x;simp only[cE] at h;cases n with
    |zero=>simp[cE] at h
    |succ n'=>
      rw[show cE c (n'+1) base .skip s=some (.normal,s) from rfl] at h;simp only at h;refine wp_scope_straight (ih N base b x s s' e hN hc h X φ w B a hr hg _ fun a' w' φ' uG k=>?_);have hq:=hQ a' w' φ' uG k;cases e<;>exact hq
   case h_11=>cases hc
end
end Go.Bm

/- What a function returns. -/
namespace Go.Bm
open Go.Am
section
variable {P:Program} {X:Nat->Prop} {φ nY φ':cX} {w w1 w':World} {N N1 N':Names} {s s' s1:St} {Ha:Heap} {B:Nat->Nat} {base:Nat} {v va:AV} {v':Value} {c:dM} {a:Act} {call:Nat->List AV->Heap->Option (AV × Heap)}
theorem acp (h:dY X φ w N s Ha (tm a)) (hg:Am.dD (ga c) X φ w) {rv:Rv} {x:AV} (hx:Tf c s rv=some x):∃xa,UX Ha (ze N s.env) rv=some xa/\Le (cu N x) xa/\ct (aq s) s.H.length x/\bH x=false:=by
 cases rv with
 |t i=>
   simp only[Tf,af] at hx;subst hx;refine⟨_,rfl,?_,Q5 h i,KU _ _⟩;rw[mF,<-OY];exact Le.refl _
 |c i ag=>
   simp only[Tf] at hx;split at hx
   case h_2=>cases hx
   rename_i u ps hp;simp at hx;subst hx;obtain⟨va,fl,e,hle,h2,h3⟩:=abV (a:=a) h hg (x:=.t i) (o':=.tmp i) (by simp[kO,cH]) hp
   have gV:bH u=false:=by
    have rd:∀{cs:List AV},H7 ag cs=some u->bH u=false:=by
     intro cs hu;unfold H7 at hu;split at hu
     case h_2=>cases hu
     split at hu
     ·cases hu
     rename_i gV;simp at hu gV;subst hu;exact gV
    unfold ym at hp;split at hp
    ·split at hp
     ·rename_i hu; simp at hp; obtain⟨rfl,_⟩:=hp; exact rd hu
     ·cases hp
    ·split at hp
     ·split at hp
      ·rename_i hu; simp at hp; obtain⟨rfl,_⟩:=hp; exact rd hu
      ·cases hp
     ·cases hp
    ·split at hp
     ·split at hp
      ·split at hp
       ·split at hp
        ·rename_i hu; simp at hp; obtain⟨rfl,_⟩:=hp; exact rd hu
        ·cases hp
       ·cases hp
      ·cases hp
     ·cases hp
    ·cases hp
   rw[kJ N gV] at hle;refine⟨va,?_,hle,h2,gV⟩;simp only[kz,kO,fi,Am.ev] at e;simp only[UX];split at e
   ·rename_i cs dB;rw[dB];split at e
    ·rename_i u' FV; simp at e; obtain⟨rfl,_⟩:=e; exact FV
    ·cases e
   ·rename_i b off dB;rw[dB];split at e
    ·rename_i cs hb;simp only[hb];split at e
     ·rename_i u' FV; simp at e; obtain⟨rfl,_⟩:=e; exact FV
     ·cases e
    ·cases e
   ·cases e
theorem O9 (h:dY X φ w N s Ha (tm a)) (hg:Am.dD (ga c) X φ w):∀{rvs:List Rv} {xs:List AV},p9 c s rvs=some xs->∃S9,JV Ha (ze N s.env) rvs=some S9/\S9.length=xs.length/\(∀(i:Nat) (x y:AV),xs[i]?=some x->S9[i]?=some y->Le (cu N x) y)/\jX (aq s) s.H.length xs/\∀ x∈xs,bH x=false
 |[],xs,hx=>by simp[p9] at hx; subst hx; exact⟨[],rfl,rfl,fun i x y h=>by simp at h,trivial,fun x hx=>by simp at hx⟩
 |r::rs,xs,hx=>by
   simp only[p9] at hx;split at hx
   case h_2=>cases hx
   rename_i u us h1 h2;simp at hx;subst hx;obtain⟨xa,a1,a2,a3,a4⟩:=acp h hg h1;obtain⟨S9,b1,b2,b3,b4,b5⟩:=O9 h hg h2;refine⟨xa::S9,by simp only[JV,a1,b1],by simp[b2],fun i x y hx hy=>?_,⟨a3,b4⟩,fun x hx=>?_⟩
   ·cases i with
    |zero=>simp at hx hy; subst hx hy; exact a2
    |succ i=>simp at hx hy; exact b3 i x y hx hy
   ·rcases aK.1 hx with e|e
    ·subst e; exact a4
    ·exact b5 x e
theorem UC (h:dY X φ w N s Ha (tm a)) (hg:Am.dD (ga c) X φ w) {rvs:List Rv} {xs:List AV} (hx:p9 c s rvs=some xs):∃S9,JV Ha (ze N s.env) rvs=some S9/\Le (cu N (nZ xs)) (nZ S9)/\ct (aq s) s.H.length (nZ xs)/\bH (nZ xs)=false:=by
 obtain⟨S9,b1,b2,b3,b4,b5⟩:=O9 h hg hx;refine⟨S9,b1,?_⟩
 match xs,S9,b2 with
 |[],[],_=>exact⟨Le.refl _,trivial,rfl⟩
 |[x],[y],_=>exact⟨b3 0 x y rfl rfl,b4.1,b5 x (by simp)⟩
 |x::x2::xs,y::y2::ys,hl=>
   refine⟨fun R φ v r=>?_,b4,rfl⟩;simp only[nZ,cu] at r ⊢;cases r with
   |dA _ _ vs FG hh=>exact .dA _ _ _ (by rw[dw,<-hl]; exact FG) (fun i d u hd hu=>by
     rw[lV] at hd;cases hc:(x::x2::xs)[i]? with
     |none=>rw[hc] at hd; cases hd
     |some z=>
       rw[hc] at hd;simp at hd;subst hd;obtain⟨y',Ey⟩:=aS (l:=y::y2::ys) (i:=i) (by have:=aj hc; omega);exact b3 i z y' hc Ey _ _ _ (hh i y' u Ey hu))
theorem SB.val (h:SB X φ w B base s (tm a)) {r:AV} (hp:pl r=true) {v':Value} (hr:bD (Rd X [] w) [] r v') (B':Nat->Nat):∃φ',SB X φ' w B' 0 ⟨[(0,r)],[]⟩ (fun i=>if i=0 then v' else undef)/\eT φ w φ' w:=by
 obtain⟨N,Ha,h,hb⟩:=h
 have gV:∀g,¬bQ (aV φ.length none) g:=fun g ⟨b,sz,e⟩=>by
  rw[iu] at e;split at e<;>simp at e
 refine⟨aV φ.length none,?_,⟨rfl,rfl,rfl,aG _,aG _,fun g hg ho=>⟨rfl,gV g⟩,⟨by simp,fun b p hb e=>by rw[iu] at e; split at e<;>simp at e⟩⟩⟩;have Aq:∀i,get [(0,r)] i=if i=0 then r else .any:=fun i=>by simp only[Am.get]
 have mX:∀i,pl (get [(0,r)] i)=true:=fun i=>by rw[Aq]; split; exact hp; rfl
 have hnoo:∀p,aq ⟨[(0,r)],[]⟩ p=none:=by
  intro p;cases p with
  |s i=>exact (dK (s:=⟨[(0,r)],[]⟩) (tB (mX i))).1
  |sc i j=>exact (dK (s:=⟨[(0,r)],[]⟩) (tB (mX i))).2 j
  |c b j=>unfold aq; simp[at_,aN]
 refine⟨⟨fun _=>0,fun _=>none⟩,aV φ.length none,⟨fun i=>?_,fun i=>uE _ (mX i),⟨by simp,h.heap.FK,fun b cs hb=>?_,fun b hb=>?_,fun b b' g sz o0 h1=>?_⟩,fun p k xs e=>?_,fun b cs e=>?_,fun p q n e1=>?_,fun b p e1=>?_,fun b d e1=>?_⟩,fun b hb=>by omega,Jn _⟩
 ·have hr2:bD (Rd X (aV φ.length none) w) (aV φ.length none) r v':=(hr.mono (R':=Rd X (aV φ.length none) w) (fun a u h=>⟨h.1,gV _,h.2.2⟩) (.refl _)).GR _;show bD _ _ (jW _ i (get [(0,r)] i)) (if i=0 then v' else undef);rw[xX _ _ (mX i),Aq];by_cases e:i=0
  ·rw[if_pos e,if_pos e]; exact hr2
  ·rw[if_neg e,if_neg e]; exact .any _ _
 ·rw[iu] at hb; split at hb<;>simp at hb
 ·have:=aj hb;rw[iu];simp at this;rw[if_pos this]
 ·rw[iu] at h1; split at h1<;>simp at h1
 ·rw[hnoo] at e; cases e
 ·simp[aN] at e
 ·rw[hnoo] at e1; cases e1
 ·simp[aN] at e1
 ·simp[aN] at e1
end
end Go.Bm

/- The end of a function that sees no boxes of others. -/
namespace Go.Bm
open Go.Am
section
variable {P:Program} {X:Nat->Prop} {φ nY φ':cX} {w w1 w':World} {N N1 N':Names} {s s' s1:St} {Ha:Heap} {B:Nat->Nat} {base:Nat} {v va:AV} {v':Value} {c:dM} {a:Act} {call:Nat->List AV->Heap->Option (AV × Heap)}
theorem SB.own1 (h:dY X φ w N s Ha (tm a)) {p:Rt} {k len:Nat} {xs:List AV} (hp:aq s p=some (k,xs)) (hle:len<=xs.length) (hr:bD (Rd X φ w) φ (cu N (.du k p 0 len)) v') (B':Nat->Nat):SB X φ w B' 0 ⟨[(0,.own k (xs.take len))],[]⟩ (fun i=>if i=0 then v' else undef):=by
 have Aq:∀i,get [(0,AV.own k (xs.take len))] i=if i=0 then .own k (xs.take len) else .any:=fun i=>by simp only[Am.get]
 have hlen:(xs.take len).length=len:=by simp; omega
 have eG:∀q k' ys,aq ⟨[(0,.own k (xs.take len))],[]⟩ q=some (k',ys)->q=.s 0/\k'=k/\ys=xs.take len:=by
  intro q k' ys e;have e':=bR.1 e;cases q with
  |s i=>
    simp only[at_,Aq,af] at e';by_cases hi:i=0
    ·subst hi; simp at e'; exact⟨rfl,e'.1.symm,e'.2.symm⟩
    ·rw[if_neg hi] at e'; cases e'
  |sc i j=>
    simp only[at_,Aq] at e';by_cases hi:i=0
    ·subst hi; simp at e'
    ·rw[if_neg hi] at e'; cases e'
  |c b j=>simp[at_,aN] at e'
 have one:∀{q},(aq ⟨[(0,.own k (xs.take len))],[]⟩ q).isSome->q=.s 0:=by
  intro q hq;obtain⟨⟨k',ys⟩,e⟩:=aM.1 hq;exact (eG q k' ys e).1
 refine⟨⟨N.β,fun q=>N.ν p⟩,Ha,⟨fun i=>?_,fun i=>?_,h.heap,fun q k' ys e=>?_,fun b cs e=>?_,fun q r n e1 e2 _ _=>?_,fun b q e1=>?_,fun b d e1=>?_⟩,fun b hb=>by omega,Jn _⟩
 ·show bD _ _ (jW _ i (get [(0,AV.own k (xs.take len))] i)) (if i=0 then v' else undef);rw[Aq];by_cases e:i=0
  ·rw[if_pos e,if_pos e];simp only[jW,iJ,qI,hlen];simp only[cu,sk] at hr;exact hr
  ·rw[if_neg e,if_neg e]; exact .any _ _
 ·show ct _ _ (get [(0,AV.own k (xs.take len))] i);rw[Aq];split<;>trivial
 ·obtain⟨rfl,rfl,rfl⟩:=eG q k' ys e;exact (h.own p k' xs hp).take
 ·simp[aN] at e
 ·rw[one e1,one e2]
 ·simp[aN] at e1
 ·simp[aN] at e1
theorem aaa (h:dY X φ w N s Ha (tm a)) (hb:(∀b,b<base->N.β b=B b)/\base<=s.H.length) (hv:bD (Rd X φ w) φ (cu N v) v') (hk:ct (aq s) s.H.length v) (gV:bH v=false) {md:Md} {r:AV} {H':Heap} (iN:md.sh=false) (hf:bU md base s v=some (r,H')) (B':Nat->Nat) :
  H'=[]/\∃ φ',SB X φ' w B' 0 ⟨[(0,r)],[]⟩ (fun i=>if i=0 then v' else undef)/\eT φ w φ' w:=by
 have Ba:∀a u,Rd X φ w a u->Rd X [] w a u:=fun a u ⟨h1,_,h3⟩=>⟨h1,bQ.nil _,h3⟩;unfold bU at hf;rw[iN] at hf;simp only[bk,if_false] at hf;split at hf
 ·split at hf
  case isFalse=>cases hf
  split at hf
  case h_2=>cases hf
  rename_i r' hr;simp at hf;obtain⟨rfl,rfl⟩:=hf;refine⟨rfl,?_⟩;unfold UI UH at hr;split at hr
  ·rename_i k p len;split at hr
   case h_2=>cases hr
   rename_i k' xs hp;split at hr
   case isFalse=>cases hr
   rename_i hc;obtain⟨rfl,hle⟩:=hc;simp at hr;subst hr;exact⟨φ,SB.own1 h hp hle hv B',.refl _ _⟩
  ·simp[bH] at gV
  ·rename_i h1 h2;split at hr
   case isFalse=>cases hr
   rename_i mX;simp at hr;subst hr;rw[kg N _ mX] at hv;exact SB.val (base:=base) (B:=B) ⟨N,Ha,h,hb⟩ mX ((hv.dx (fQ _ mX) []).mono Ba (.refl _)) B'
 ·split at hf
  case h_2=>cases hf
  rename_i r' hr;simp at hf;obtain⟨rfl,rfl⟩:=hf;obtain⟨p1,p2⟩:=LR h v r' hr hk;exact⟨rfl,SB.val (base:=base) (B:=B) ⟨N,Ha,h,hb⟩ p1 (p2 _ hv) B'⟩
def tY (P:Program) (c:dM):Prop:=∀f g md q,c.orc f=some g->c.fn f=some (md,q)->∀args H r H',(md.sh=true\/H=[])->g args H=some (r,H')->(md.sh=true->gQ H'=true)->∀X φ w B (vargs:Array Value),args.length=vargs.size->SB X φ w B H.length ⟨dL 0 args,H⟩ (fun i=>vargs.getD i undef)->Am.dD (ga c) X φ w->Calls P f vargs w (Fv X φ w B H.length r H')
def ShOK (P:Program) (c:dM) (n:Nat):Prop:=∀f md q,c.fn f=some (md,q)->md.sh=true->∀args H r H',mL c (cE c n) f args H=some (r,H')->gQ H'=true->∀X φ w B (vargs:Array Value),args.length=vargs.size->SB X φ w B H.length ⟨dL 0 args,H⟩ (fun i=>vargs.getD i undef)->Am.dD (ga c) X φ w->Calls P f vargs w (Fv X φ w B H.length r H')
theorem HA (cW:eM P c) (tK:tY P c) {n:Nat} (hs:Mt P c n) (iN:ShOK P c n):gC P c (mL c (cE c n)):=by
 intro f md q hf args H r H' hH h j8 X φ w B vargs hl FE hg;by_cases hm:md.sh=true
 ·exact iN f md q hf hm args H r H' h (j8 hm) X φ w B vargs hl FE hg
 have NP:md.sh=false:=by simpa using hm
 have hH':H=[]:=hH.elim (fun e=>absurd e hm) id;subst hH';unfold mL at h;split at h
 ·rename_i x Cl;unfold FP at Cl;split at Cl
  case h_2=>cases Cl
  rename_i g Jt;rw[h] at Cl;replace h:=Cl;exact tK f g md q Jt hf args [] r H' (.inr rfl) h j8 X φ w B vargs hl FE hg
 ·rw[hf] at h;simp only at h;split at h
  case isFalse=>cases h
  rename_i hle;obtain⟨fn,h1,h2⟩:=cW.fn f md q hf;simp only[cY,ae,decide_eq_true_eq] at h2;obtain⟨⟨⟨⟨hn,afF⟩,_⟩,hres⟩,s8⟩:=h2;split at s8
  case h_2=>cases s8
  rename_i code hb;have zT:(vargs++qv (fn.ntmps-vargs.size) undef).size=q.n:=by simp; omega
  have htm:tm { tmps:=vargs++qv (fn.ntmps-vargs.size) undef,defers:=[] }=fun i=>vargs.getD i undef:=by
   funext i;simp only[tm,aW];by_cases hi:i<vargs.size
   ·rw[rU hi]
   ·rw[FA (by omega),kQ];rw[JC (by omega)];split<;>rfl
  have hS:An X φ w B 0 ⟨dL 0 args,[]⟩ { tmps:=vargs++qv (fn.ntmps-vargs.size) undef,defers:=[] } q.n:=⟨by rw[htm]; exact FE,rfl,zT⟩
  have fin:∀{e:Ex} {s:St} {vs:List AV},cE c n 0 q.body ⟨dL 0 args,[]⟩=some (e,s)->(e=.ret\/e=.normal)->p9 c s q.res=some vs->bU md 0 s (nZ vs)=some (r,H')->Calls P f vargs w (Fv X φ w B 0 r H'):=by
   intro e s vs he hre Js NT;refine calls_of_wp h1 hb (hs q.n 0 code q.body _ s e (by omega) s8 he X φ w B _ hS hg _ fun a' w' φ' hS' tM=>?_);obtain⟨N,Ha,wJ,hbB⟩:=hS'.sb;obtain⟨S9,x1,x2,x3,x4⟩:=UC wJ (hg.nN tM) Js;obtain⟨v,k1,k2⟩:=BA (P:=P) (s:=⟨ze N s.env,Ha⟩) (ts:=a'.tmps) (fun i=>by rw[mF]; exact wJ.env i) wJ.heap hres x1;obtain⟨rfl,kR,s2,a2⟩:=aaa wJ hbB (x2 _ _ _ k2) x3 x4 NP NT B;have:bodyPost P fn (Fv X φ w B 0 r []) .ret a' w':=⟨hS'.defers,v,k1,v,kR,rfl,s2,tM.trans a2⟩;rcases hre with rfl|rfl
   ·exact this
   ·exact this
  split at h
  ·rename_i s he;split at h
   ·rename_i vs Js;exact fin he (.inl rfl) Js h
   ·cases h
  ·rename_i s he;split at h
   ·rename_i vs Js;exact fin he (.inr rfl) Js h
   ·cases h
  ·cases h
end
end Go.Bm

/- Every operation, given the calls that share boxes. -/
namespace Go.Bm
open Go.Am
section
variable {P:Program} {c:dM} {call:Nat->List AV->Heap->Option (AV × Heap)}
def Fu (P:Program) (c:dM) (call:Nat->List AV->Heap->Option (AV × Heap)):Prop:=
 ∀ X φ w B base s (o:Oper) (a:Act) kd f args md q r H',cG P o.op (kz kd)=true->SB X φ w B base s (tm a)->Am.dD (ga c) X φ w->getArgs c s.env kd=some (f,args)->c.fn f=some (md,q)->md.sh=true->fo (args.map gj)=true->gQ s.H=true->aI r=[]->bH r=false->gQ H'=true->call f (args.map gj) s.H=some (r,H')->kG P X φ w B base ⟨jQ kS s.env,H'⟩ r o a
theorem Tp (cW:eM P c) (dI:gC P c call) (iN:Fu P c call) {X:Nat->Prop} {φ:cX} {w:World} {B:Nat->Nat} {base:Nat} {s s1:St} {o:Oper} {a:Act} {kd:Kd} {v:AV} {fq:Fq} (hk:cG P o.op (kz kd)=true) (h:SB X φ w B base s (tm a)) (hg:Am.dD (ga c) X φ w) (hs:dO c call kd s=some (v,s1,fq)):kG P X φ w B base s1 v o a:=by
 unfold dO at hs;split at hs
 ·cases hs
 rename_i f args ha;split at hs
 ·cases hs
 rename_i md q hf;split at hs
 ·rename_i hmd;simp only[ae,bn] at hmd;split at hs
  ·cases hs
  rename_i rR hz;split at hs
  case h_2=>cases hs
  rename_i r H' hc;split at hs
  case isFalse=>cases hs
  rename_i hr;simp only[af,aA] at hs;obtain⟨rfl,rfl,_⟩:=hs;exact Nw cW dI h hg hk ha hf hmd.2 hz hc hr
 ·obtain⟨nY,h1,a1⟩:=SB.dJ (cU args) h;refine kG.ghost a1 ?_;split at hs
  ·cases hs
  rename_i f1 oY LL;split at hs
  case isFalse=>cases hs
  rename_i W4;subst W4;split at hs
  ·rename_i hm;split at hs
   case isFalse=>cases hs
   rename_i hp;split at hs
   case h_2=>cases hs
   rename_i r H' hc;split at hs
   case isFalse=>cases hs
   rename_i hr;simp only[af,aA] at hs;obtain⟨rfl,rfl,_⟩:=hs;simp only[ae,bn] at hp hr;exact iN X nY w B base _ o a kd f1 oY md q r H' hk h1 (hg.nN a1) LL hf hm hp.1 hp.2 (eY.1 hr.1.1) hr.1.2 hr.2 hc
  ·rename_i hm;split at hs
   case isFalse=>cases hs
   rename_i hp;split at hs
   case h_2=>cases hs
   rename_i r H' hc;split at hs
   case isFalse=>cases hs
   rename_i hr;simp only[af,aA] at hs;obtain⟨rfl,rfl,_⟩:=hs;exact Nv cW dI h1 (hg.nN a1) hk LL hf (by simpa using hm) hp hc hr
def Jl (w:World) (og:Option Nat) (k:Nat) (ys:List AV) (e:Ending) (w':World):Prop:=
 ∃ (g' F6:Nat) (arr':Array Value) (e':TypeId),e=.returned (.slice (some ⟨g',0,none⟩) ys.length F6)/\ys.length<=F6/\F6*k<=arr'.size/\w'.heap[g']?=some (.cells arr' e' (0,0)) /\
  (∀(i:Nat) (d:AV),(az ys)[i]?=some d->∃u,arr'[i]?=some u/\bD (fun _ _=>False) [] d u)/\(og=some g'\/w.heap.size<=g') /\
  (∀h,h<w.heap.size->og≠some h->w'.heap[h]?=w.heap[h]?)/\w'.os=w.os/\w'.tape=w.tape/\w'.output=w.output/\w.drawn<=w'.drawn/\w.heap.size<=w'.heap.size
abbrev aaW (T:Nat->Nat->Addr->Value->Prop) (w:World) (og:Option Nat) (k:Nat) (ys:List AV) (e:Ending) (w':World):Prop:=
 ∃ (g' F6:Nat) (arr':Array Value) (e':TypeId) (a':Addr),e=.returned (.slice (some a') ys.length F6)/\(0<F6->a'=⟨g',0,none⟩)/\ys.length<=F6/\F6*k<=arr'.size/\w'.heap[g']?=some (.cells arr' e' (0,0)) /\
  (∀(i:Nat) (d:AV),(az ys)[i]?=some d->∃u,arr'[i]?=some u/\bD (T g' (arr'.size+1)) [] d u)/\(og=some g'\/w.heap.size<=g') /\
  (∀h,h<w.heap.size->og≠some h->w'.heap[h]?=w.heap[h]?)/\w'.os=w.os/\w'.tape=w.tape/\w'.output=w.output/\w.drawn<=w'.drawn/\w.heap.size<=w'.heap.size
def Mu (w:World) (og:Option Nat) (k:Nat) (ys:List AV) (e:Ending) (w':World):Prop:=
 aaW (fun _ _ _ _=>False) w og k ys e w' \/
 (og=none/\ys=[]/\e=.returned (.slice none 0 0)/\eT [] w [] w')
theorem Jl.n {w:World} {og:Option Nat} {k:Nat} {ys:List AV} {e:Ending} {w':World} (h:Jl w og k ys e w'):Mu w og k ys e w':=by
 obtain⟨g',F6,arr',e',h1,h2⟩:=h;exact .inl ⟨g',F6,arr',e',_,h1,fun _=>rfl,h2⟩
def OQ (w:World) (og:Option Nat) (a:Addr) (u:Value):Prop:=og≠some a.block/\w.cell? a=some u/\∃ arr te,w.heap[a.block]?=some (.cells arr te (0,0))
def Sj (w:World) (og:Option Nat) (a:Addr) (u:Value):Prop:=og≠some a.block/\w.cell? a=some u
def BesE:AV->World->Option Nat->Addr->Value->Prop
 |.func _ _ _=>Sj
 |_=>OQ
def OK (P:Program) (f:Nat) (g:Nat->List AV->List AV->Option (List AV)) (Q:World->Option Nat->Nat->List AV->Ending->World->Prop):Prop:=∀k xs es ys,g k xs es=some ys->(∀x∈xs,x.cells.length=k)->(∀x∈xs,∀d∈x.cells,fz d=true) ->
 ((∀y∈ys,y.cells.length=k)/\∀ y∈ys,∀d∈y.cells,fz d=true) /\
 (xs=[]->∀w (vargs:Array Value),es.length+1=vargs.size->vargs[0]?=some (.slice none 0 0)->(∀(i:Nat) (e:AV) (v:Value),es[i]?=some e->vargs[i+1]?=some v->bD (BesE e w none) [] e v)->Calls P f vargs w (Q w none k ys)) /\
 ∀ w (vargs:Array Value) g0 arr te a cap,w.heap[g0]?=some (.cells arr te (0,0))->(∀(i:Nat) (d:AV),(az xs)[i]?=some d->∃u,arr[i]?=some u/\bD (fun _ _=>False) [] d u)->es.length+1=vargs.size->vargs[0]?=some (.slice (some a) xs.length cap)->(0<cap->a=⟨g0,0,none⟩)->xs.length<=cap->cap*k<=arr.size ->
  (∀(i:Nat) (e:AV) (v:Value),es[i]?=some e->vargs[i+1]?=some v->bD (BesE e w (some g0)) [] e v)->Calls P f vargs w (Q w (some g0) k ys)
theorem OK.weak {P:Program} {f:Nat} {g:Nat->List AV->List AV->Option (List AV)} (h:OK P f g Jl):OK P f g Mu:=by
 intro k xs es ys hg h1 h2;obtain⟨p,q,r⟩:=h k xs es ys hg h1 h2;exact⟨p,fun a b c d e f=>(q a b c d e f).mono fun _ _ z=>z.n,fun a b c d e f g h i j k l m n o=>(r a b c d e f g h i j k l m n o).mono fun _ _ z=>z.n⟩
def HK (P:Program) (c:dM):Prop:=True
def X7 (P:Program) (c:dM):Prop:=∀f g,c.inp f=some g->(∃md q,c.fn f=some (md,q))/\∀ k xs es ys res,g k xs es=some (ys,res)->(∀x∈xs,x.cells.length=k)->(∀x∈xs,∀d∈x.cells,fz d=true) ->
 ((ys.length=xs.length/\(∀y∈ys,y.cells.length=k))/\((∀y∈ys,∀d∈y.cells,fz d=true)/\∀ m,res=some m->m<=xs.length)) /\
 (xs=[]->∀X φ w (vargs:Array Value) v0 y,(y=.di\/y=.list k [])->es.length+1=vargs.size->vargs[0]?=some v0->bD (Rd X φ w) φ y v0->(∀(i:Nat) (e:AV) (v:Value),es[i]?=some e->vargs[i+1]?=some v->bD (Rd X φ w) [] e v) ->
  Calls P f vargs w (fun e w'=>∃v',e=.returned v'/\bD (Rd X φ w') φ (match res with
   |none=>.dA []
   |some _=>y) v'/\eT [] w [] w')) /\
 ∀ X φ w Ha n rest (vargs:Array Value) v0,bO X φ w Ha->aN Ha n=some (az (xs++rest))->es.length+1=vargs.size->vargs[0]?=some v0->bD (Rd X φ w) φ (.sl k n 0 xs.length) v0->(∀(i:Nat) (e:AV) (v:Value),es[i]?=some e->vargs[i+1]?=some v->bD (Rd X φ w) [] e v) ->
  Calls P f vargs w (fun e w'=>∃v' φ',e=.returned v'/\bD (Rd X φ' w') φ' (match res with
   |none=>.dA []
   |some m=>.sl k n 0 m) v'/\bO X φ' w' (Ha.set n (some (az (ys++rest))))/\eT φ w φ' w')
def tl (P:Program) (c:dM):Prop:=X7 P c/\HK P c
theorem HK.none {P:Program} {c:dM} (h:∀f,c.eat f=none):HK P c:=trivial
theorem tl.none {P:Program} {c:dM} (h:∀f,c.inp f=none) (h2:∀f,c.eat f=none:=by intro _; rfl):tl P c:=⟨(fun f g hf=>by rw[h f] at hf; cases hf),HK.none h2⟩
theorem M9 {s:St} {p:Rt} {v:AV} (h:at_ s p=some v):(∀i,get (setAt s p v).env i=get s.env i)/\(setAt s p v).H=s.H:=by
 cases p with
 |s i=>
   simp only[at_,af] at h;refine⟨fun j=>?_,rfl⟩;simp only[setAt,bz];split
   ·rename_i e; subst e; exact h.symm
   ·rfl
 |sc i l=>
   simp only[at_] at h;split at h
   ·rename_i cs hc
    have e:cs.set l v=cs:=by
     apply dq;intro j;rw[aQ];split
     ·rename_i e; subst e; split
      ·exact h.symm
      ·rename_i bY; rw[dU (by omega)] at h; cases h
     ·rfl
    have hs:setAt s (.sc i l) v=⟨put s.env i (.agg cs),s.H⟩:=by simp only[setAt,hc,e]
    rw[hs];refine⟨fun j=>?_,rfl⟩;show get (put s.env i (.agg cs)) j=_;rw[bz];split
    ·rename_i e2; subst e2; exact hc.symm
    ·rfl
   ·cases h
 |c b l=>
   simp only[at_] at h;split at h
   ·rename_i cs hc
    have e:cs.set l v=cs:=by
     apply dq;intro j;rw[aQ];split
     ·rename_i e; subst e; split
      ·exact h.symm
      ·rename_i bY; rw[dU (by omega)] at h; cases h
     ·rfl
    have hs:setAt s (.c b l) v=⟨s.env,s.H.set b (some cs)⟩:=by simp only[setAt,hc,e]
    rw[hs];refine⟨fun j=>rfl,?_⟩;show s.H.set b (some cs)=s.H;apply dq;intro j;rw[aQ];split
    ·rename_i e2;subst e2;rw[if_pos (dp hc),blk_iff.1 hc]
    ·rfl
   ·cases h
theorem fX (xs ys:List AV):az (xs++ys)=az xs++az ys:=by
 induction xs with
 |nil=>rfl
 |cons x r ih=>simp[az,ih,dQ]
theorem xP {xs:List AV} {d:AV} (h:d∈az xs):∃x∈xs,d∈x.cells:=by
 induction xs with
 |nil=>simp[az] at h
 |cons x r ih=>
   simp only[az,aC] at h;rcases h with h|h
   ·exact⟨x,by simp,h⟩
   ·obtain⟨y,hy,hd⟩:=ih h;exact⟨y,by simp[hy],hd⟩
theorem OQ.weak {w:World} {og:Option Nat} {a:Addr} {u:Value} (h:OQ w og a u):Sj w og a u:=⟨h.1,h.2.1⟩
theorem dY.Mo {X:Nat->Prop} {φ nY:cX} {w w1:World} {N:Names} {s:St} {Ha Ha':Heap} {t:Nat->Value} (h:dY X φ w N s Ha t) {p:Rt} {kp:Nat} {xs:List AV} (hp:aq s p=some (kp,xs)) (ad:eT φ w nY w1) (hh:bO X nY w1 Ha') {n:Nat} (hn:N.ν p=some n\/φ.length<=n) (j8:∀m,m≠n->m<Ha.length->aN Ha' m=aN Ha m):dY X nY w1 N (setAt (bX (sw p) s) p .any) Ha' t:=by
 have hpo:(aq s p).isSome:=by rw[hp]; rfl
 obtain⟨d1,d2,d3⟩:=h.drop hp;have hlen:=h.heap.len;refine d1.nN ad hh (fun q k' zs e=>?_) (fun b BV=>?_)
 ·have e':=e;rw[d2] at e';split at e'
  ·cases e'
  rename_i oR;refine (d1.own q k' zs e).same fun m hmq=>?_;have ZU:=h.gU (by rw[e']; rfl) hmq;refine j8 m ?_ ZU;rintro rfl;rcases hn with hn|hn
  ·exact oR (h.inj q p m (by rw[e']; rfl) hpo hmq hn)
  ·omega
 ·have IL:(aN s.H b).isSome:=by
   cases e:aN s.H b with
   |none=>rw[d3.Cf b e] at BV; cases BV
   |some _=>rfl
  have ZU:=h.sd IL;refine j8 _ ?_ ZU;intro e;rcases hn with hn|hn
  ·exact h.bx b p IL hpo (by rw[hn,e])
  ·omega
theorem adf (cW:eM P c) (heat:HK P c) {X:Nat->Prop} {φ:cX} {w:World} {B:Nat->Nat} {base:Nat} {s s1:St} {o:Oper} {a:Act} {f:Nat} {x:E} {es:List E} {v:AV} {fq:Fq} (hk:cG P o.op (kz (.call f (x::es)))=true) (h:SB X φ w B base s (tm a)) (hg:Am.dD (ga c) X φ w) {g:Nat->List AV->List AV->Option (List AV)} (Jt:c.eat f=some g) (hs:Of s g (aR c s.env x) (dm c s.env es)=some (v,s1,fq)):kG P X φ w B base s1 v o a:=by unfold Of at hs;cases hs
mutual
theorem Ih:∀x,pl x=true->aI x=[]
 |.du _ _ _ _,h=>by simp[pl] at h
 |.eR _ _ _ _,h=>by simp[pl] at h
 |.agg cs,h=>by simp only[pl] at h; simp only[aI]; exact wN cs h
 |.dA cs,h=>by simp only[pl] at h; simp only[aI]; exact wN cs h
 |.func _ a b,h=>by simp only[pl,ae] at h; simp only[aI,wN a h.2.1,wN b h.2.2,jb]
 |.any,_=>rfl|.undef,_=>rfl|.fg,_=>rfl|.fj,_=>rfl|.di,_=>rfl
 |.int _ _,_=>rfl|.bool _,_=>rfl|.str _,_=>rfl|.list _ _,_=>rfl|.de _,_=>rfl|.ptr _ _,_=>rfl|.sl _ _ _ _,_=>rfl|.own _ _,_=>rfl
theorem wN:∀xs,eC xs=true->cU xs=[]
 |[],_=>rfl
 |x::r,h=>by simp only[eC,ae] at h; simp only[cU,Ih x h.1,wN r h.2,jb]
end
theorem Wn {s s1:St} {f:Nat} {x:AV} {es:List AV} {v:AV} {fl:Fq} (h:Tx c call s f es x=some (v,s1,fl)):∃b md q cs cs',x=.ptr b 0/\c.fn f=some (md,q)/\aN s.H b=some cs/\(md.sh=true/\eC es=true/\eC cs=true)/\call f (.ptr 0 0::es) [some cs]=some (v,[some cs'])/\(pl v=true/\eC cs'=true)/\s1=⟨s.env,s.H.set b (some cs')⟩/\fl=.lw b:=by
 unfold Tx at h;split at h
 case h_2=>cases h
 rename_i b;split at h
 case h_2=>cases h
 rename_i md q cs hf hb;split at h
 case isFalse=>cases h
 rename_i hp;split at h
 case h_2=>cases h
 rename_i r cs' hc;split at h
 case isFalse=>cases h
 rename_i hr;simp only[af,aA] at h;obtain⟨rfl,rfl,rfl⟩:=h;exact⟨b,md,q,cs,cs',rfl,hf,hb,hp,hc,hr,rfl,rfl⟩
theorem vH {s s1:St} {kd:Kd} {v:AV} {fl:Fq} (h:mN c call s kd=some (some (v,s1,fl))):∃f x es b md q cs cs',kd=.call f (x::es)/\c.loc f=true/\aR c s.env x=.ptr b 0/\c.fn f=some (md,q)/\aN s.H b=some cs/\(md.sh=true/\eC (dm c s.env es)=true/\eC cs=true)/\call f (.ptr 0 0::dm c s.env es) [some cs]=some (v,[some cs'])/\(pl v=true/\eC cs'=true)/\s1=⟨s.env,s.H.set b (some cs')⟩/\fl=.lw b:=by
 unfold mN at h;split at h
 case h_2=>cases h
 rename_i f x es;split at h
 case isFalse=>cases h
 rename_i hl;simp only[af] at h;obtain⟨b,md,q,cs,cs',h1,h2,h3,h4,h5,h6,h7,h8⟩:=Wn h;exact⟨f,x,es,b,md,q,cs,cs',rfl,hl,h1,h2,h3,h4,h5,h6,h7,h8⟩
theorem CC {s s1:St} {kd:Kd} {v:AV} {f:Fq} (h:mN c call s kd=some (some (v,s1,f))):∃b,f=.lw b:=by
 obtain⟨_,_,_,b,_,_,_,_,_,_,_,_,_,_,_,_,_,e⟩:=vH h;exact⟨b,e⟩
theorem Np:∀{l:List AV},(∀y∈l,pl y=true)->eC l=true
 |[],_=>rfl
 |x::r,h=>by simp only[eC,ae]; exact⟨h x (by simp),Np fun y hy=>h y (by simp[hy])⟩
theorem I3:∀{l:List AV},(∀y∈l,y.cells=[y])->az l=l
 |[],_=>rfl
 |x::r,h=>by
   simp only[az];rw[h x (by simp),I3 fun y hy=>h y (by simp[hy])];rfl
theorem Xk {x:AV} (h:fz x=true):x.cells=[x]:=by
 have:=(lI h).2;cases x<;>first|rfl|(simp[AV.leaf] at this; done)
theorem Y9 (cW:eM P c) (nF:X7 P c) {X:Nat->Prop} {φ:cX} {w:World} {B:Nat->Nat} {base:Nat} {s:St} {o:Oper} {a:Act} {f:Nat} {x:E} {es:List E} {g:Nat->List AV->List AV->Option (List AV × Option Nat)} (hk:cG P o.op (kz (.call f (x::es)))=true) (h:SB X φ w B base s (tm a)) (hg:Am.dD (ga c) X φ w) (Jt:c.inp f=some g) {k b len:Nat} {cs ys:List AV} {res:Option Nat} (hx:aR c s.env x=.sl k b 0 len) (hb:aN s.H b=some cs) (hc:k=1/\len<=cs.length/\IY cs=true/\eC (dm c s.env es)=true) (FZ:g k (cs.take len) (dm c s.env es)=some (ys,res)):kG P X φ w B base ⟨s.env,s.H.set b (some (az ys++cs.drop len))⟩ (Eu k b res) o a:=by
 obtain⟨rfl,hle,Cm,mX⟩:=hc;obtain⟨⟨md,q,hf⟩,hI⟩:=nF f g Jt;obtain⟨N,Ha,h,BV⟩:=h;obtain⟨vargs,oQ,hA,zU⟩:=oX (kd:=.call f (x::es)) (args:=aR c s.env x::dm c s.env es) cW h hg hk rfl hf;rw[hx] at hA zU;have hl:(dm c s.env es).length+1=vargs.size:=by have:=hA.1; simpa using this
 obtain⟨v0,Lt⟩:=bP (l:=vargs) (i:=0) (by omega);have r0:=hA.2 0 _ v0 rfl Lt
 have TL:∀(i:Nat) (e:AV) (u:Value),(dm c s.env es)[i]?=some e->vargs[i+1]?=some u->bD (Rd X φ w) [] e u:=fun i e u he hu=>by
  have r1:=hA.2 (i+1) e u (by simpa using he) hu;have FF:=fR mX i e he;have ht:fS N e=e:=by cases e<;>first|exact kg N _ FF|(simp[pl] at FF; done)
  rw[ht] at r1;exact r1.dx (fQ _ FF) []
 simp only[fS,cu] at r0;obtain⟨as,b1,b2,b3⟩:=h.box b cs hb;have hce:∀y∈cs,y.cells=[y]:=fun y hy=>Xk (nQ Cm y hy);have RC:eC cs=true:=Np fun y hy=>(lI (nQ Cm y hy)).1
 have hH1:bO X φ w (Ha.set (N.β b) (some cs)):=less h.heap b1 (by omega) (.inr (by omega)) fun i d hd=>by
  obtain⟨_,a',a1,a2⟩:=b3 i d hd;rw[qp N _ (fR RC i d hd)] at a2;exact⟨a',a1,a2⟩
 have htd:az (cs.take len++cs.drop len)=cs:=by rw[MQ]; exact I3 hce
 have bY:(cs.take len).length=len:=by rw[bg]; omega
 obtain⟨⟨⟨j1,j2⟩,j3,j4⟩,_,j6⟩:=hI 1 _ _ ys res FZ (fun y hy=>by rw[hce y (cP hy)]; rfl) (fun y hy d hd=>by
  have Ey:=cP hy;rw[hce y Ey] at hd;simp at hd;subst hd;exact nQ Cm d Ey)
 have kX:=j6 X φ w (Ha.set (N.β b) (some cs)) (N.β b) (cs.drop len) vargs v0 hH1 (by rw[htd,df,if_pos ⟨rfl,dp b1⟩]) hl Lt (by rw[bY]; exact r0) TL;intro K Q hK;unfold Oper.wp;rw[oQ,Oper.upon_enter];refine kX.mono ?_;rintro e w1 ⟨v',nY,rfl,rv,hh,ad⟩;rw[List.set_set,fX,I3 (l:=cs.drop len) fun y hy=>hce y (cQ hy)] at hh
 have ME:eC (az ys++cs.drop len)=true:=Np fun y hy=>by
  rcases aC.1 hy with hy|hy
  ·obtain⟨z,hz,hd⟩:=xP hy;exact (lI (j3 z hz y hd)).1
  ·exact (lI (nQ Cm y (cQ hy))).1
 have gE:=h.HY (cs':=az ys++cs.drop len) hb RC ME ad hh (by rw[df,if_pos ⟨rfl,dp b1⟩]) fun m hm=>by rw[df,if_neg (fun h=>hm h.1)]
 refine hK v' w1 nY (dP.quiet gE ⟨BV.1,by simpa using BV.2⟩ ?_ ?_ ?_) ad
 ·cases res with
  |none=>trivial
  |some m=>
    show b<(s.H.set b _).length;rw[cO]; exact dp hb
 ·cases res<;>trivial
 ·cases res with
  |none=>simpa[Eu,u7,cu,kj] using rv
  |some m=>simpa[Eu,u7,cu] using rv
theorem ac9 (cW:eM P c) (nF:tl P c) {X:Nat->Prop} {φ:cX} {w:World} {B:Nat->Nat} {base:Nat} {s s1:St} {o:Oper} {a:Act} {kd:Kd} {v:AV} {fq:Fq} (hk:cG P o.op (kz kd)=true) (h:SB X φ w B base s (tm a)) (hg:Am.dD (ga c) X φ w) (hs:pW c s kd=some (some (v,s1,fq))):kG P X φ w B base s1 v o a:=by
 unfold pW at hs;split at hs
 case h_2=>cases hs
 rename_i f x es;split at hs
 case h_1=>
  split at hs
  ·cases hs
  ·rename_i g Jt;simp only[af] at hs;exact adf cW nF.2 hk h hg Jt hs
 replace nF:=nF.1;rename_i g Jt;simp only[af] at hs;split at hs
 case h_4=>cases hs
 case h_3=>
  rename_i k b len hx;split at hs
  case h_2=>cases hs
  rename_i cs hb;split at hs
  case isFalse=>cases hs
  rename_i hc;split at hs
  case h_2=>cases hs
  rename_i ys res FZ;simp only[af,aA] at hs;obtain⟨rfl,rfl,_⟩:=hs;exact Y9 cW nF hk h hg Jt hx hb hc FZ
 ·rename_i k hx;split at hs
  case isFalse=>cases hs
  rename_i mX;split at hs
  case h_2=>cases hs
  rename_i ys res FZ;simp only[af,aA] at hs;obtain⟨rfl,rfl,_⟩:=hs;obtain⟨⟨md,q,hf⟩,hI⟩:=nF f g Jt;obtain⟨N,Ha,h,hb⟩:=h;obtain⟨vargs,oQ,hA,zU⟩:=oX (kd:=.call f (x::es)) (args:=aR c s.env x::dm c s.env es) cW h hg hk rfl hf;rw[hx] at hA zU;have hl:(dm c s.env es).length+1=vargs.size:=by have:=hA.1; simpa using this
  obtain⟨v0,Lt⟩:=bP (l:=vargs) (i:=0) (by omega);have r0:=hA.2 0 _ v0 rfl Lt
  have TL:∀(i:Nat) (e:AV) (u:Value),(dm c s.env es)[i]?=some e->vargs[i+1]?=some u->bD (Rd X φ w) [] e u:=fun i e u he hu=>by
   have r1:=hA.2 (i+1) e u (by simpa using he) hu;have FF:=fR mX i e he;have ht:fS N e=e:=by cases e<;>first|exact kg N _ FF|(simp[pl] at FF; done)
   rw[ht] at r1;exact r1.dx (fQ _ FF) []
  obtain⟨_,j3,_⟩:=hI k _ _ ys res FZ (fun y hy=>by simp at hy) (fun y hy=>by simp at hy);simp only[fS,cu] at r0;have kX:=j3 rfl X φ w vargs v0 _ (.inr rfl) hl Lt r0 TL;intro K Q hK;unfold Oper.wp;rw[oQ,Oper.upon_enter];refine kX.mono ?_;rintro e w1 ⟨v',rfl,rv,ad⟩;have gE:dY X φ w1 N s Ha (tm a):=h.nN (.of_same ad) (h.heap.of_same ad) h.own (fun _ _=>rfl);refine hK v' w1 φ (dP.quiet gE hb ?_ ?_ ?_) (.of_same ad)
  ·cases res<;>trivial
  ·cases res<;>trivial
  ·cases res with
   |none=>simpa[ZD,u7,cu,kj] using rv
   |some m=>simpa[ZD,u7,cu] using rv
 rename_i k p len hx;split at hs
 case h_2=>cases hs
 rename_i k' xs hp;split at hs
 case isFalse=>cases hs
 rename_i hc;obtain⟨rfl,hle,mX⟩:=hc;split at hs
 case h_2=>cases hs
 rename_i ys res FZ;simp only[af,aA] at hs;obtain⟨rfl,rfl,_⟩:=hs;obtain⟨⟨md,q,hf⟩,hI⟩:=nF f g Jt;obtain⟨N,Ha,h,hb⟩:=h;obtain⟨vargs,oQ,hA,zU⟩:=oX (kd:=.call f (x::es)) (args:=aR c s.env x::dm c s.env es) cW h hg hk rfl hf;rw[hx] at hA zU;have hl:(dm c s.env es).length+1=vargs.size:=by have:=hA.1; simpa using this
 obtain⟨v0,Lt⟩:=bP (l:=vargs) (i:=0) (by omega);have r0:=hA.2 0 _ v0 rfl Lt
 have TL:∀(i:Nat) (e:AV) (u:Value),(dm c s.env es)[i]?=some e->vargs[i+1]?=some u->bD (Rd X φ w) [] e u:=fun i e u he hu=>by
  have r1:=hA.2 (i+1) e u (by simpa using he) hu;have FF:=fR mX i e he;have ht:fS N e=e:=by cases e<;>first|exact kg N _ FF|(simp[pl] at FF; done)
  rw[ht] at r1;exact r1.dx (fQ _ FF) []
 have eG:=h.own p k' xs hp;cases hn:N.ν p with
 |none=>
   rw[hn] at eG;have hxs:xs=[]:=eG;subst hxs;have h0:len=0:=by simpa using hle
   subst h0;obtain⟨⟨⟨j1,_⟩,_,j2⟩,j3,_⟩:=hI k' _ _ ys res FZ (fun y hy=>by simp at hy) (fun y hy=>by simp at hy);have hys:ys=[]:=by simpa using j1
   subst hys;simp only[fS,cu,hn] at r0;have kX:=j3 (by simp) X φ w vargs v0 _ (.inl rfl) hl Lt r0 TL;intro K Q hK;unfold Oper.wp;rw[oQ,Oper.upon_enter];refine kX.mono ?_;rintro e w1 ⟨v',rfl,rv,ad⟩;obtain⟨se,sH⟩:=M9 (s:=s) (p:=p) (v:=.own k' []) (bR.1 hp);have gE:dY X φ w1 N (setAt s p (.own k' ([]++([]:List AV).drop 0))) Ha (tm a):=(h.nN (.of_same ad) (h.heap.of_same ad) h.own (fun _ _=>rfl)).ext se sH;refine hK v' w1 φ (dP.quiet gE ⟨hb.1,by show base<=(setAt s p (.own k' [])).H.length; rw[sH]; exact hb.2⟩ ?_ ?_ ?_) (.of_same ad)
   ·cases res with
    |none=>trivial
    |some m=>
      have:=j2 m rfl;simp at this;subst this
      exact⟨[],by
       show aq (setAt s p (.own k' [])) p=_;rw[GL se sH]; exact hp,by simp⟩
   ·cases res<;>trivial
   ·cases res with
    |none=>simpa[TB,u7,cu,kj] using rv
    |some m=>simpa[TB,u7,cu,hn] using rv
 |some n=>
   rw[hn] at eG;obtain⟨cs,c1,c2,c3,c4⟩:=eG;have hxs:xs.take len++xs.drop len=xs:=MQ len xs
   have Cm:∀y∈xs,∀d∈y.cells,fz d=true:=by
    intro y hy d hd
    have:d∈az xs:=by
     clear c1 c2 c3 c4 FZ hp hle hxs hA r0 zU hx Lt TL
     induction xs with
     |nil=>simp at hy
     |cons z r ih=>
       simp only[az,aC];rcases aK.1 hy with e|e
       ·subst e; exact .inl hd
       ·exact .inr (ih e)
    obtain⟨i,hi⟩:=bt this;exact (c4 i d hi).1
   obtain⟨⟨⟨j1,j2⟩,j3,j4⟩,_,j6⟩:=hI k' _ _ ys res FZ (fun y hy=>c3 y (cP hy)) (fun y hy=>Cm y (cP hy));have bY:(xs.take len).length=len:=by simp; omega
   rw[bY] at j1;simp only[fS,cu,hn,sk] at r0
   have hH1:bO X φ w (Ha.set n (some (az xs))):=less h.heap c1 (by rw[iP c3]; exact c2) (.inl fun g sz e=>r0.Av e) fun i d hd=>by
    obtain⟨_,a',b1,_,b2⟩:=c4 i d hd;exact⟨a',b1,b2⟩
   have kX:=j6 X φ w (Ha.set n (some (az xs))) n (xs.drop len) vargs v0 hH1 (by rw[hxs,df,if_pos ⟨rfl,dp c1⟩]) hl Lt (by rw[bY]; exact r0) TL;intro K Q hK;unfold Oper.wp;rw[oQ,Oper.upon_enter];refine kX.mono ?_;rintro e w1 ⟨v',nY,rfl,rv,hh,ad⟩;rw[List.set_set] at hh
   have LB:∀y∈ys++xs.drop len,y.cells.length=k':=fun y hy=>by
    rcases aC.1 hy with hy|hy
    ·exact j2 y hy
    ·exact c3 y (cQ hy)
   have WW:qj (Ha.set n (some (az (ys++xs.drop len)))) (some n) k' (ys++xs.drop len):=by
    refine⟨az (ys++xs.drop len),by rw[df,if_pos ⟨rfl,dp c1⟩],by rw[iP LB]; exact aG _,LB,fun i d hd=>?_⟩;have hm:=xP (aU hd);obtain⟨y,hy,hdy⟩:=hm
    have hfd:fz d=true:=by
     rcases aC.1 hy with hy|hy
     ·exact j3 y hy d hdy
     ·exact Cm y (cQ hy) d hdy
    exact⟨hfd,d,hd,(lI hfd).2,Le.refl _⟩
   obtain⟨gE,iN⟩:=h.upd (xs':=ys++xs.drop len) hp hn (by simp; omega) ad hh WW (fun m CE=>by rw[df,if_neg (fun e=>CE e.1)])
   have eI:aq (setAt s p (.own k' (ys++xs.drop len))) p=some (k',ys++xs.drop len):=by
    have u4:=bR.1 hp;refine bR.2 ?_;rw[Br ⟨(fun cs e=>by cases e),_,u4,(fun cs e=>by cases e)⟩ (DO (by rw[hp]; rfl)),if_pos rfl]
   refine hK v' w1 nY (dP.quiet gE ⟨hb.1,by rw[iN.len]; exact hb.2⟩ ?_ ?_ ?_) ad
   ·cases res with
    |none=>trivial
    |some m=>
      have:=j4 m rfl;refine⟨_,eI,?_⟩;rw[bw];omega
   ·cases res<;>trivial
   ·cases res with
    |none=>simpa[TB,u7,cu,kj] using rv
    |some m=>simpa[TB,u7,cu,hn] using rv
theorem ac3 (cW:eM P c) (dI:gC P c call) {X:Nat->Prop} {φ:cX} {w:World} {B:Nat->Nat} {base:Nat} {s s1:St} {o:Oper} {a:Act} {kd:Kd} {v:AV} {fq:Fq} (hk:cG P o.op (kz kd)=true) (h:SB X φ w B base s (tm a)) (hg:Am.dD (ga c) X φ w) (hs:mN c call s kd=some (some (v,s1,fq))):kG P X φ w B base s1 v o a:=by
 obtain⟨f,x,es,b,md,q,cs,cs',rfl,hl,hx,hf,hb,⟨iN,mX,RC⟩,hc,⟨hpr,NN⟩,rfl,rfl⟩:=vH hs;obtain⟨N,Ha,h,BV⟩:=h;obtain⟨vargs,oQ,hA,zU⟩:=oX (kd:=.call f (x::es)) (args:=aR c s.env x::dm c s.env es) cW h hg hk rfl hf;rw[hx] at hA zU;generalize dm c s.env es=as at mX hc hA zU;obtain⟨bs,b1,b2,b3⟩:=h.box b cs hb
 obtain⟨g,sz,arr,te,g1,g2,g3,g4,g5,g6⟩:=h.heap.cat b1 (fun g sz q=>by
  obtain⟨v0,Lt⟩:=bP (l:=vargs) (i:=0) (by have:=hA.1; simp at this; omega);have r0:bD (Rd X φ w) φ (.ptr (N.β b) 0) v0:=hA.2 0 _ v0 rfl Lt;exact r0.YS q)
 have og:bQ φ g:=⟨_,sz,g1⟩
 have ow:∀g0,bQ [some (g,sz)] g0->g0=g:=by
  rintro g0 ⟨i,z,hi⟩;cases i with
  |zero=>simp at hi; exact hi.1.symm
  |succ i=>simp at hi
 have rdin:∀a u,Rd X φ w a u->Rd (fun g0=>X g0\/(bQ φ g0/\g0≠g)) [some (g,sz)] w a u:=fun a u ⟨h1,h2,h3⟩=>⟨fun h=>h.elim h1 (fun h=>h2 h.1),fun ho=>h2 (by rw[ow _ ho]; exact og),h3⟩
 have hh:bO (fun g0=>X g0\/(bQ φ g0/\g0≠g)) [some (g,sz)] w [some cs]:=by
  refine⟨rfl,fun g0 h0=>h0.elim (h.heap.FK g0) (fun ho=>(h.heap.gU ho.1).1),fun i ds hi=>?_,fun i hi=>?_,fun i i' g0 z z' e1 e2=>?_⟩
  ·cases i with
   |succ i=>simp at hi
   |zero=>
     simp at hi;subst hi;refine⟨g,sz,arr,_,rfl,g2,.inl ⟨te,rfl,g3⟩,⟨by omega,fun z=>by omega⟩,fun h0=>h0.elim g5 (fun h1=>h1.2 rfl),fun j d hd=>?_⟩;obtain⟨_,a',Uw,hle⟩:=b3 j d hd;obtain⟨u,u1,u2⟩:=g6 j a' Uw;have hpd:=fR RC j d hd;rw[qp N _ hpd] at hle;exact⟨u,u1,((hle _ _ _ u2).dx (fQ _ hpd) _).mono rdin (.refl _)⟩
  ·cases i with
   |zero=>simp at hi
   |succ i=>simp at hi
  ·cases i with
   |succ i=>simp at e1
   |zero=>cases i' with
     |zero=>rfl
     |succ i'=>simp at e2
 have Aq:∀i,get (dL 0 (AV.ptr 0 0::as)) i=(AV.ptr 0 0::as)[i]?.getD .any:=fun i=>by rw[ta]; simp
 have EC:∀i,(get (dL 0 (AV.ptr 0 0::as)) i=.ptr 0 0/\i=0)\/pl (get (dL 0 (AV.ptr 0 0::as)) i)=true:=fun i=>by
  rw[Aq];cases i with
  |zero=>exact .inl ⟨rfl,rfl⟩
  |succ i=>
    refine .inr ?_;simp only[mR];cases e:as[i]? with
    |none=>rfl
    |some x=>exact fR mX i x e
 have gV:∀p,aq ⟨dL 0 (AV.ptr 0 0::as),[some cs]⟩ p=none:=by
  have hw:∀i,bH (get (dL 0 (AV.ptr 0 0::as)) i)=false:=fun i=>(EC i).elim (fun e=>by rw[e.1]; rfl) tB;intro p;cases p with
  |s i=>exact (dK (s:=⟨dL 0 (AV.ptr 0 0::as),[some cs]⟩) (hw i)).1
  |sc i j=>exact (dK (s:=⟨dL 0 (AV.ptr 0 0::as),[some cs]⟩) (hw i)).2 j
  |c d j=>
    refine AE fun ds hd=>?_;cases d with
    |zero=>simp[aN] at hd; subst hd; exact RC
    |succ d=>simp[aN] at hd
 have mO:as.length+1=vargs.size:=by simpa using hA.1
 have FE:SB (fun g0=>X g0\/(bQ φ g0/\g0≠g)) [some (g,sz)] w (fun _=>0) 1 ⟨dL 0 (AV.ptr 0 0::as),[some cs]⟩ (fun i=>vargs.getD i undef):=by
  refine⟨⟨fun _=>0,fun _=>none⟩,[some cs],⟨fun i=>?_,fun i=>?_,hh,fun p k xs e=>?_,fun d ds e=>?_,fun p q n e1=>?_,fun d p _ e1=>?_,fun d e0 e1 e2 _=>?_⟩,fun b hb=>rfl,by simp⟩
  ·show bD _ _ (jW _ i (get (dL 0 (AV.ptr 0 0::as)) i)) _;rcases EC i with⟨e,rfl⟩|hp
   ·rw[e];obtain⟨v0,Lt⟩:=bP (l:=vargs) (i:=0) (by omega);have r0:=hA.2 0 _ v0 rfl Lt;rw[aW,Lt];simp only[fS,cu] at r0;cases r0 with
    |ptr _ _ _ ad iU h'=>
      refine .ptr _ _ _ _ (by simp) fun g0 z e=>?_;simp at e;obtain⟨rfl,rfl⟩:=e;exact h' g sz g1
   ·rw[xX _ _ hp];cases i with
    |zero=>rw[Aq] at hp; simp[pl] at hp
    |succ i=>
      rw[Aq] at hp ⊢;simp only[mR] at hp ⊢;cases e:as[i]? with
      |none=>exact .any _ _
      |some y=>
        rw[e] at hp;simp only[eX] at hp ⊢;obtain⟨v,hv⟩:=bP (l:=vargs) (i:=i+1) (by have:=aj e; omega);have r0:=hA.2 (i+1) y v (by simpa using e) hv;rw[wH N hp] at r0;rw[aW,hv];exact (r0.dx (fQ _ hp) _).mono rdin (.refl _)
  ·show ct _ _ (get (dL 0 (AV.ptr 0 0::as)) i);rcases EC i with⟨e,_⟩|hp
   ·rw[e]; simp[ct]
   ·exact uE _ hp
  ·rw[gV] at e; cases e
  ·cases d with
   |succ d=>simp[aN] at e
   |zero=>
     simp[aN] at e;subst e;exact⟨cs,rfl,rfl,fun j d hd=>⟨uE _ (fR RC j d hd),d,hd,by rw[qp _ _ (fR RC j d hd)]; exact Le.refl _⟩⟩
  ·rw[gV] at e1; cases e1
  ·rw[gV] at e1; cases e1
  ·cases d with
   |succ d=>simp[aN] at e1
   |zero=>cases e0 with
     |succ d=>simp[aN] at e2
     |zero=>rfl
 have kX:=dI f md q hf (AV.ptr 0 0::as) [some cs] v [some cs'] (.inl iN) hc (fun _=>by simp[gQ,wN _ NN,wc]) _ _ w (fun _=>0) vargs (by simpa using hA.1) FE (fun g0=>(hg g0).mono rdin (.refl _));intro K Q hK;unfold Oper.wp;rw[oQ,Oper.upon_enter];refine kX.mono ?_;rintro e w1 ⟨v',nY,rfl,⟨N1,H1,gE,zW,_⟩,ad⟩;obtain⟨as1,c1,c2,c3⟩:=gE.box 0 cs' rfl;rw[zW 0 (by simp)] at c1;obtain⟨g',o0,arr1,te1,k1,k2,k3,k4,k5,k6⟩:=gE.heap.at c1;have hgg:=ad.QN.FQ 0 _ (by simp) k1;simp at hgg;obtain⟨rfl,rfl⟩:=hgg;have ow2:bQ nY g:=⟨0,sz,k1⟩;have aa1:∀a u,Rd (fun g0=>X g0\/(bQ φ g0/\g0≠g)) nY w1 a u->Rd X φ w1 a u:=fun a u ⟨h1,h2,h3⟩=>⟨fun h=>h1 (.inl h),fun ho=>h1 (.inr ⟨ho,fun e=>h2 (by rw[e]; exact ow2)⟩),h3⟩;have nN:eT φ w φ w1:=⟨ad.os,ad.tape,ad.output,ad.drawn,ad.size,fun g0 bY hno'=>⟨(ad.keep g0 bY (fun ho=>hno' (by rw[ow _ ho]; exact og))).1,hno'⟩,.refl _⟩
 have W3:bO X φ w1 (Ha.set (N.β b) (some cs')):=by
  refine⟨by simp[h.heap.len],fun g0 h0=>fM (h.heap.FK g0 h0) ad.size,fun m ds hm=>?_,fun m hm=>?_,h.heap.inj⟩
  ·rw[aQ] at hm;split at hm
   ·rename_i e;subst e;split at hm
    ·simp at hm;subst hm;refine⟨g,sz,arr1,te1,g1,k2,k3,⟨by omega,fun z=>by omega⟩,g5,fun j d hd=>?_⟩;obtain⟨_,a',Uw,hle⟩:=c3 j d hd;obtain⟨u,u1,u2⟩:=k6 j a' Uw;have hpd:=fR NN j d hd;rw[qp N1 _ hpd] at hle;exact⟨u,u1,((hle _ _ _ u2).dx (fQ _ hpd) _).mono aa1 (.refl _)⟩
    ·cases hm
   ·rename_i tn;obtain⟨g0,Gj,arr0,e0,p1,p2,p3,p4,p5,p6⟩:=h.heap.live m ds hm;have hg0:g0≠g:=fun e=>tn (h.heap.inj _ _ _ _ _ g1 (e▸p1));refine⟨g0,Gj,arr0,e0,p1,?_,p3,p4,p5,fun j d hd=>?_⟩
    ·rw[(ad.keep g0 (ff.1 p2).1 (fun ho=>hg0 (ow _ ho))).1]; exact p2
    ·obtain⟨u,u1,u2⟩:=p6 j d hd;exact⟨u,u1,nN.rep u2⟩
  ·rw[aQ] at hm;split at hm
   ·split at hm<;>simp at hm
   ·exact h.heap.dead m hm
 have hlen:(s.H.set b (some cs')).length=s.H.length:=by simp
 have M8:dY X φ w1 N ⟨s.env,s.H.set b (some cs')⟩ (Ha.set (N.β b) (some cs')) (tm a):=h.HY hb RC NN nN W3 (by rw[df,if_pos ⟨rfl,dp b1⟩]) fun m hm=>by rw[df,if_neg (fun h=>hm h.1)]
 have hno2:=tB hpr;have r0:=gE.env 0;simp only[Am.get,if_true] at r0;rw[xX N1 0 hpr] at r0;refine hK v' w1 φ (dP.quiet M8 ⟨BV.1,by show base<=(s.H.set b (some cs')).length; rw[hlen]; exact BV.2⟩ (uE v hpr) (lG hno2) ?_) nN;rw[kJ N hno2,kg N _ hpr];exact (r0.dx (fQ _ hpr) _).mono aa1 (.refl _)
theorem ac0 (cW:eM P c) (dI:gC P c call) {X:Nat->Prop} {φ:cX} {w:World} {B:Nat->Nat} {base:Nat} {s s1:St} {o:Oper} {a:Act} {v:AV} {fq:Fq} {f i:Nat} {es:List E} (hk:cG P o.op (kz (.call f es))=true) (h:SB X φ w B base s (tm a)) (hg:Am.dD (ga c) X φ w) (hs:KI c call f i s (dm c s.env es)=some (v,s1,fq)):kG P X φ w B base s1 v o a:=by unfold KI at hs;cases hs
theorem wI {s s1:St} {kd:Kd} {v:AV} {f:Fq} (h:Au c call s kd=some (v,s1,f)):f=.all/\aI v=[]:=by unfold Au at h;cases h
theorem O4 {s:St} {kd:Kd} {x:AV × St × Fq} (h:Au c call s kd=some x):∃n args H r H',call n args H=some (r,H')/\∀ g:Nat->List AV->Heap->Option (AV × Heap),g n args H=some (r,H')->Au c g s kd=some x:=by unfold Au at h;cases h
theorem UO {s:St} {kd:Kd} {x:AV × St × Fq} (h:Au c call s kd=some x) (g:Nat->List AV->Heap->Option (AV × Heap)):dO c g kd s=none:=by unfold Au at h;cases h
theorem iG {s s1:St} {kd:Kd} {v:AV} {f:Fq} (h:rP c call kd s=some (v,s1,f)):dO c call kd s=some (v,s1,f)\/Au c call s kd=some (v,s1,f):=by
 unfold rP at h;split at h
 ·rename_i x hx;rw[hx];exact .inl h
 ·exact .inr h
theorem qQ {s:St} {kd:Kd} {x:AV × St × Fq} (h:dO c call kd s=some x):rP c call kd s=some x:=by
 unfold rP;rw[h]
theorem ES {s:St} {kd:Kd} {x:AV × St × Fq} (h:Au c call s kd=some x):rP c call kd s=some x:=by
 unfold rP;rw[UO h];exact h
theorem acY (cW:eM P c) (dI:gC P c call) {X:Nat->Prop} {φ:cX} {w:World} {B:Nat->Nat} {base:Nat} {s s1:St} {o:Oper} {a:Act} {kd:Kd} {v:AV} {fq:Fq} (hk:cG P o.op (kz kd)=true) (h:SB X φ w B base s (tm a)) (hg:Am.dD (ga c) X φ w) (hs:Au c call s kd=some (v,s1,fq)):kG P X φ w B base s1 v o a:=by unfold Au at hs;cases hs
theorem DV (cW:eM P c) (nF:tl P c) (dI:gC P c call) (iN:Fu P c call) {X:Nat->Prop} {φ:cX} {w:World} {B:Nat->Nat} {base:Nat} {s s1:St} {o:Oper} {a:Act} {kd:Kd} {v:AV} {fq:Fq} (hk:cG P o.op (kz kd)=true) (h:SB X φ w B base s (tm a)) (hg:Am.dD (ga c) X φ w) (hs:dj c call kd s=some (v,s1,fq)):kG P X φ w B base s1 v o a:=by
 unfold dj at hs;cases hi:pW c s kd with
 |none=>
   rw[hi] at hs;cases hl:mN c call s kd with
   |none=>
     rw[hl] at hs;simp only[fL] at hs;cases hm:rZ c call s kd with
     |none=>
       rw[hm] at hs;rcases iG hs with hs|hs
       ·exact Tp cW dI iN hk h hg hs
       ·exact acY cW dI hk h hg hs
     |some r=>
       rw[hm] at hs;simp only at hs;subst hs;unfold rZ at hm;split at hm
       case h_2=>cases hm
       rename_i f es;split at hm
       case h_2=>cases hm
       rename_i i hi;simp only[af] at hm;obtain⟨nY,h1,a1⟩:=SB.dJ (cU ((dm c s.env es).set i .undef)) h;exact kG.ghost a1 (ac0 cW dI hk h1 (hg.nN a1) hm)
   |some r=>
     rw[hl] at hs;simp only at hs;subst hs;exact ac3 cW dI hk h hg hl
 |some r=>
   rw[hi] at hs;simp only at hs;subst hs;exact ac9 cW nF hk h hg hi
theorem abS (cW:eM P c) (nF:tl P c) (dI:gC P c call) (iN:Fu P c call):HJ P c call:=by
 intro X φ w B base s o a kd v s1 f hk hs h hg;cases hc:mC kd with
 |false=>exact acU cW.mixed h hg hk hc hs
 |true=>
   cases kd<;>simp[mC] at hc
   ·simp only[eO] at hs; exact DV cW nF dI iN hk h hg hs
   ·simp only[eO] at hs; exact DV cW nF dI iN hk h hg hs
end
end Go.Bm

/- A call of a function of the program, from a world of which nothing is known but how the arguments read; given what is still to be shown. -/
namespace Go.Bm
open Go.Am
section
variable {P:Program} {c:dM}
theorem M7 (cW:eM P c) (nF:tl P c) (tK:tY P c) (hshc:∀call,gC P c call->Fu P c call) (hdr:∀call,gC P c call->Fx P c call) (iN:∀n,Mt P c n->ShOK P c n) (n:Nat):Mt P c n:=
 C3 (fun call hc=>abS cW nF hc (hshc call hc)) hdr (fun n hs=>HA cW tK hs (iN n hs)) n
theorem Ua (cW:eM P c) {call:Nat->List AV->Heap->Option (AV × Heap)} (dI:gC P c call) {f:Nat} {md:Md} {q:gR} (hf:c.fn f=some (md,q)) (iN:md.sh=false) {args:List AV} (hz:eC args=true) {r:AV} {H':Heap} (h:call f args []=some (r,H')) (hr:pl r=true) {w:World} {vargs:Array Value}
  (ha:si (fun _=>False) [] w args vargs) (hg:Am.dD (ga c) (fun _=>False) [] w):Calls P f vargs w (fun e w'=>∃v,e=.returned v/\bD (Rd (fun _=>False) [] w') [] r v/\RowKit.Below w.heap.size w w'):=by
 have FE:=SB.start (X:=fun _=>False) (w:=w) (args:=args) (vargs:=vargs) (fun g hg=>hg.elim) hz ha.1 ha.2 (fun _=>0);refine (dI f md q hf args [] r H' (.inr rfl) h (fun e=>by rw[iN] at e; cases e) (fun _=>False) [] w (fun _=>0) vargs ha.1 FE hg).mono ?_;rintro e w1 ⟨v',nY,rfl,⟨N1,H1,gE,_⟩,a1⟩;have r0:=gE.env 0;simp only[Am.get,if_true] at r0;rw[xX N1 0 hr] at r0;refine⟨v',rfl,(r0.dx (fQ _ hr) []).mono (fun a u ⟨h1,_,h3⟩=>⟨h1,bQ.nil _,h3⟩) (.refl _),a1.os,a1.tape,a1.output,a1.size,fun k hk=>(a1.keep k hk (bQ.nil k)).1⟩
theorem X1 {φ':cX} {w w':World} (a:eT [] w φ' w'):∃q os,w'=HP (w.drewN q) os:=by
 refine⟨w'.drawn-w.drawn,w'.heap.extract w.heap.size w'.heap.size,?_⟩;have hd:=a.drawn;have hs:=a.size
 have hh:w'.heap=w.heap++w'.heap.extract w.heap.size w'.heap.size:=by
  apply Array.ext_getElem?;intro k;rw[Array.getElem?_append];split
  ·rename_i h;exact (a.keep k h (bQ.nil k)).1
  ·rename_i h;rw[Array.getElem?_extract];by_cases h2:k<w'.heap.size
   ·rw[if_pos (by omega),show w.heap.size+(k-w.heap.size)=k by omega]
   ·rw[if_neg (by omega),JC (by omega)]
 have h1:=a.os;have h2:=a.tape;have h3:=a.output;obtain⟨Lx,tp',dr',os',ou'⟩:=w';obtain⟨hp,tp,dr,os,ou⟩:=w;simp only at hh hd h1 h2 h3;subst h1; subst h2; subst h3;unfold HP World.drewN;simp only[World.mk.injEq,and_true,true_and];exact⟨hh,by omega⟩
theorem OB (cW:eM P c) {call:Nat->List AV->Heap->Option (AV × Heap)} (dI:gC P c call) {f:Nat} {md:Md} {q:gR} (hf:c.fn f=some (md,q)) (iN:md.sh=false) {args:List AV} (hz:eC args=true) {r:AV} {H':Heap} (h:call f args []=some (r,H')) (hr:pl r=true) {w:World} {vargs:Array Value}
  (ha:si (fun _=>False) [] w args vargs) (hg:Am.dD (ga c) (fun _=>False) [] w):Calls P f vargs w (fun e w'=>∃v,e=.returned v/\bD (Rd (fun _=>False) [] w') [] r v/\∃ q os,w'=HP (w.drewN q) os):=by
 have FE:=SB.start (X:=fun _=>False) (w:=w) (args:=args) (vargs:=vargs) (fun g hg=>hg.elim) hz ha.1 ha.2 (fun _=>0);refine (dI f md q hf args [] r H' (.inr rfl) h (fun e=>by rw[iN] at e; cases e) (fun _=>False) [] w (fun _=>0) vargs ha.1 FE hg).mono ?_;rintro e w1 ⟨v',nY,rfl,⟨N1,H1,gE,_⟩,a1⟩;have r0:=gE.env 0;simp only[Am.get,if_true] at r0;rw[xX N1 0 hr] at r0;exact⟨v',rfl,(r0.dx (fQ _ hr) []).mono (fun a u ⟨h1,_,h3⟩=>⟨h1,bQ.nil _,h3⟩) (.refl _),X1 a1⟩
end
end Go.Bm

/- Regions that draw their order: it makes no difference, given that two steps whose order is open commute. -/
namespace Go.Bm
open Go.Am
section
variable {P:Program} {c:dM} {call:Nat->List AV->Heap->Option (AV × Heap)} {T:St->O->Fq->St->Prop}
abbrev Uk:=Nat × Oper × O × Fq
def OI (P:Program) (c:dM) (T:St->O->Fq->St->Prop):Prop:=
 ∀ X φ w B base N ops s s' (o:Oper) a q f,N<=eW->I9 P N ops o (L7 q)=true->T s q f s'->An X φ w B base s a N->Am.dD (ga c) X φ w->∀(K:Act->World->Prop) (Q:Exit->Act->World->Prop),(∀a' w' φ',An X φ' w' B base s' a' N->eT φ w φ' w'->K a' w') ->
  if Region.wanted o (yielded ops a.tmps) then o.wp P a w K Q\/(o.asks P a w/\LetsOut Q) else K (a.put o.dst Um) w
def Mv (T:St->O->Fq->St->Prop):Prop:=
 ∀ s x f s1 y g s2,T s x f s1->T s1 y g s2->iW x y=true->ij x f y g=true->∃FL,T s y g FL/\T FL x f s2
def Ji (T:St->O->Fq->St->Prop):List Uk->St->St->Prop
 |[],s,sf=>s=sf
 |p::r,s,sf=>∃s1,T s p.2.2.1 p.2.2.2 s1/\Ji T r s1 sf
theorem Ji.Ja (hC:Mv T) {x:Uk}:∀{R1 R2:List Uk} {s sf:St},(∀p∈R1,iW p.2.2.1 x.2.2.1=true/\ij p.2.2.1 p.2.2.2 x.2.2.1 x.2.2.2=true)->Ji T (R1++x::R2) s sf->Ji T (x::(R1++R2)) s sf
 |[],R2,s,sf,_,hr=>hr
 |p::R1,R2,s,sf,h,⟨s1,h1,h2⟩=>by
   obtain⟨s2,h3,h4⟩:=Ji.Ja hC (fun q hq=>h q (by simp[hq])) h2;obtain⟨Bf,hf⟩:=h p (by simp);obtain⟨FL,k1,k2⟩:=hC _ _ _ _ _ _ _ h1 h3 Bf hf;exact⟨FL,k1,s2,k2,h4⟩
theorem aaT (hT:OI P c T) (hC:Mv T) {X:Nat->Prop} {B:Nat->Nat} {base N:Nat} (hN:N<=eW) {ops:Array Oper} {Q:Exit->Act->World->Prop} {sf:St} :
  ∀ (fuel:Nat) (R:List Uk) (listed:Array Bool) (a:Act) (w:World) (φ:cX) (s:St),R.length=fuel->(∀i,listed.getD i true=false ↔ ∃p∈R,p.1=i)->listed.size=ops.size ->
   ON ops listed->(∀p∈R,ops[p.1]?=some p.2.1/\I9 P N ops p.2.1 (L7 p.2.2.1)=true/\∀ e∈p.2.1.after,Region.binds .any e=true->e.on<p.1) ->
   R.Pairwise (fun p q=>p.1<q.1/\(Anc ops p.1 q.1\/(iW p.2.2.1 q.2.2.1=true/\ij p.2.2.1 p.2.2.2 q.2.2.1 q.2.2.2=true)))->Ji T R s sf->An X φ w B base s a N->Am.dD (ga c) X φ w ->
   (∀a' w' φ',An X φ' w' B base sf a' N->eT φ w φ' w'->Q .normal a' w')->wpAny P .any ops Q fuel listed a w:=by
 have fin:∀{a:Act} {w:World} {φ:cX} {s:St},Ji T [] s sf->An X φ w B base s a N->(∀a' w' φ',An X φ' w' B base sf a' N->eT φ w φ' w'->Q .normal a' w')->Q .normal a w:=by
  intro a w φ s hr hs hQ;obtain rfl:s=sf:=hr;exact hQ a w φ hs (.refl _ _)
 intro fuel
 induction fuel with
 |zero=>
   intro R listed a w φ s hl hls _ _ _ _ hr hs hg hQ;have hR:R=[]:=dH hl;subst hR;refine⟨?_,fin hr hs hQ⟩;rw[List.eq_nil_iff_forall_not_mem];intro i hi;obtain⟨h1,_⟩:=mem_ready.1 hi;obtain⟨p,hp,_⟩:=(hls i).1 h1;cases hp
 |succ fuel ih=>
   intro R listed a w φ s hl hls mO Ju Bc hpw hr hs hg hQ;refine⟨fun ZS=>?_,fun i hi=>?_⟩
   ·cases R with
    |nil=>simp at hl
    |cons p r=>
      exfalso;obtain⟨h1,h2,h3⟩:=Bc p (by simp)
      have:p.1∈Region.ready .any ops listed:=by
       refine mem_ready.2 ⟨(hls p.1).2 ⟨p,by simp,rfl⟩,p.2.1,h1,fun e he hb=>?_⟩;have bY:=h3 e he hb;cases hv:listed.getD e.on false with
       |true=>rfl
       |false=>
         exfalso
         have NQ:e.on<listed.size:=by
          rw[mO];have:=kP h1;omega
         have ZL:listed.getD e.on true=false:=by
          simp[aW,NQ] at hv ⊢;exact hv
         obtain⟨q,hq,hq1⟩:=(hls e.on).1 ZL;rcases aK.1 hq with hq|hq
         ·subst hq; omega
         ·have:=(HM hpw hq).1;omega
      rw[ZS] at this;cases this
   ·obtain⟨hun,o,ho,j8⟩:=mem_ready.1 hi;obtain⟨x,hx,WL⟩:=(hls i).1 hun;subst WL;obtain⟨R1,R2,rfl⟩:=List.append_of_mem hx;obtain⟨h1,h2,h3⟩:=Bc x (by simp);rw[h1] at ho;simp at ho;subst ho;have TF:=OS.1 hpw
    have afK:∀p∈R1,iW p.2.2.1 x.2.2.1=true/\ij p.2.2.1 p.2.2.2 x.2.2.1 x.2.2.2=true:=by
     intro p hp;obtain⟨_,TE⟩:=TF.2.2 p hp x (by simp);rcases TE with hw|hw
     ·exfalso
      have:=Ju.Aj hw x.2.1 h1 fun k hk=>by
       obtain⟨e,he,hb,heq⟩:=yB.1 hk;rw[<-heq]; exact j8 e he hb
      have hf:=(hls p.1).2 ⟨p,by simp[hp],rfl⟩
      have bY:p.1<listed.size:=by
       rw[mO];exact kP (Bc p (by simp[hp])).1
      simp[aW,bY] at this hf;rw[this] at hf;cases hf
     ·exact hw
    obtain⟨s1,k1,k2⟩:=Ji.Ja hC afK hr;unfold wpOp;rw[h1];refine hT X φ w B base N ops s s1 x.2.1 a x.2.2.1 x.2.2.2 hN h2 k1 hs hg _ _ fun a' w' φ' Lw tM=>?_
    refine ih (R1++R2) _ a' w' φ' _ (by simp at hl ⊢; omega) (fun j=>?_) (by simpa using mO) (fun j oj hj hlj i hi=>?_) (fun p hp=>Bc p (by rcases aC.1 hp with h|h<;>simp[h])) ?_ k2 Lw (hg.nN tM)
     fun a'' Uo pe h'' wW=>hQ a'' Uo pe h'' (tM.trans wW)
    ·have hxlt:x.1<listed.size:=by rw[mO]; exact kP h1
     by_cases hj:j=x.1
     ·subst hj;simp only[aW,Array.getElem?_setIfInBounds_self_of_lt hxlt,eX];refine⟨(fun h=>by cases h),fun⟨p,hp,Ur⟩=>?_⟩;exfalso;rcases aC.1 hp with h|h
      ·have:=(TF.2.2 p h x (by simp)).1; omega
      ·have:=(HM TF.2.1 h).1; omega
     ·have tn:x.1≠j:=fun e=>hj e.symm;rw[aW,hZ tn,<-aW,hls j];constructor
      ·rintro⟨p,hp,hpj⟩;refine⟨p,?_,hpj⟩;simp at hp ⊢;rcases hp with h|h|h
       ·exact .inl h
       ·subst h; exact absurd hpj.symm hj
       ·exact .inr h
      ·rintro⟨p,hp,hpj⟩;refine⟨p,?_,hpj⟩;simp at hp ⊢;rcases hp with h|h
       ·exact .inl h
       ·exact .inr (.inr h)
    ·have mono:∀k,listed.getD k false=true->(listed.setIfInBounds x.1 true).getD k false=true:=by
      intro k hk;by_cases hkx:x.1=k
      ·subst hkx;have bY:x.1<listed.size:=by rw[mO]; exact kP h1
       simp[aW,bY]
      ·rw[aW,hZ hkx,<-aW]; exact hk
     by_cases hjx:x.1=j
     ·subst hjx;rw[h1] at hj;cases hj;obtain⟨e,he,hb,heq⟩:=yB.1 hi;exact mono i (by rw[<-heq]; exact j8 e he hb)
     ·refine mono i (Ju j oj hj ?_ i hi);rw[aW,hZ hjx,<-aW] at hlj;exact hlj
    ·refine OS.2 ⟨TF.1,(List.pairwise_cons.1 TF.2.1).2,fun p hp q hq=>TF.2.2 p hp q (by simp[hq])⟩

end
end Go.Bm

/- Regions that draw their order, from the machine's own check. -/
namespace Go.Bm
open Go.Am
section
variable {P:Program} {c:dM} {call:Nat->List AV->Heap->Option (AV × Heap)} {T:St->O->Fq->St->Prop}
def D9:Nat->List Oper->List O->List Fq->List Uk
 |k,o::r,q::s,f::t=>(k,o,q,f)::D9 (k+1) r s t
 |_,_,_,_=>[]
theorem sY:∀(k:Nat) (os:List Oper) (qs:List O) (fs:List Fq) (j:Nat) (p:Uk),(D9 k os qs fs)[j]?=some p->p.1=k+j/\os[j]?=some p.2.1/\qs[j]?=some p.2.2.1/\fs[j]?=some p.2.2.2
 |k,[],qs,fs,j,p,h=>by simp[D9] at h
 |k,_::_,[],fs,j,p,h=>by simp[D9] at h
 |k,_::_,_::_,[],j,p,h=>by simp[D9] at h
 |k,o::r,q::s,f::t,j,p,h=>by
   simp only[D9] at h;cases j with
   |zero=>simp at h; subst h; exact⟨rfl,rfl,rfl,rfl⟩
   |succ j=>
     simp at h;obtain⟨h1,h2,h3,h4⟩:=sY (k+1) r s t j p h;exact⟨by omega,by simpa using h2,by simpa using h3,by simpa using h4⟩
theorem BP:∀(k:Nat) (os:List Oper) (qs:List O) (fs:List Fq),os.length=qs.length->qs.length=fs.length->(D9 k os qs fs).length=os.length
 |k,[],[],[],_,_=>rfl
 |k,o::r,q::s,f::t,h1,h2=>by simp[D9]; exact BP (k+1) r s t (by simpa using h1) (by simpa using h2)
 |_,[],_::_,_,h,_=>by simp at h
 |_,_::_,[],_,h,_=>by simp at h
 |_,[],[],_::_,_,h=>by simp at h
 |_,_::_,_::_,[],_,h=>by simp at h
def X5 (c:dM) (call:Nat->List AV->Heap->Option (AV × Heap)) (T:St->O->Fq->St->Prop):Prop:=∀s q f s',xN q.kd=true->rA c call s q=some (s',f)->(nT f=true->T s q f s')/\T s q .all s'
def Ej (un:List (Nat × Nat)):Nat->List Fq->List Fq
 |_,[]=>[]
 |k,f::r=>(if jF k k un then .all else f)::Ej un (k+1) r
theorem BQ (un:List (Nat × Nat)):∀(k:Nat) (fs:List Fq),(Ej un k fs).length=fs.length
 |_,[]=>rfl
 |k,f::r=>by simp[Ej,BQ un (k+1) r]
theorem KY (un:List (Nat × Nat)):∀(k:Nat) (fs:List Fq) (j:Nat),(Ej un k fs)[j]?=(fs[j]?).map fun f=>if jF (k+j) (k+j) un then .all else f
 |_,[],j=>by simp[Ej]
 |k,f::r,j=>by
   cases j with
   |zero=>simp[Ej]
   |succ j=>simp only[Ej,mR,KY un (k+1) r]; rw[show k+1+j=k+(j+1) by omega]
theorem Kv (hS:X5 c call T) (un:List (Nat × Nat)):∀(k:Nat) (os:List Oper) (qs:List O) (s s':St) (pX:List Fq),os.length=qs.length->(∀q∈qs,xN q.kd=true)->my c call qs s=some (s',pX)->Fm un k pX=true->qs.length=pX.length/\Ji T (D9 k os qs (Ej un k pX)) s s'
 |k,[],[],s,s',pX,_,_,h,_=>by simp[my] at h; obtain⟨rfl,rfl⟩:=h; exact⟨rfl,rfl⟩
 |k,[],_::_,_,_,_,hl,_,_,_=>by simp at hl
 |k,_::_,[],_,_,_,hl,_,_,_=>by simp at hl
 |k,o::r,q::qs,s,s',pX,hl,hk,h,hn=>by
   simp only[my] at h;split at h
   case h_2=>cases h
   rename_i s1 fl1 h1;split at h
   case h_2=>cases h
   rename_i s2 fl2 h2;simp at h;obtain⟨rfl,rfl⟩:=h;simp only[Fm,ae,dG] at hn;obtain⟨hn1,Yh⟩:=hn;obtain⟨h4,h5⟩:=Kv hS un (k+1) r qs _ s2 fl2 (by simpa using hl) (fun q hq=>hk q (by simp[hq])) h2 Yh;refine⟨by simp[h4],s1,?_,h5⟩;have:=hS _ _ _ _ (hk q (by simp)) h1;show T s q (if jF k k un then .all else fl1) s1;split
   ·exact this.2
   ·rename_i hp;exact this.1 (hn1.resolve_right hp)
theorem GN {s s1:St} {kd:Kd} {v:AV} {f:Fq} (h:eO c call s kd=some (v,s1,f)) (hp:still kd=true):f=.no:=by
 cases kd<;>simp[still] at hp<;>simp only[eO] at h
 all_goals try rw[hp] at h
 all_goals
  (repeat' split at h)
  all_goals first
   |(cases h; done)
   |(rename_i hq; cases hq; done)
   |(simp at h; obtain⟨rfl,rfl,rfl⟩:=h; rfl)
theorem z7 {e:Env} {d:Option Nat} {v:AV} {s s':St} {f g:Fq} (h:z8 e d v s f=some (s',g)):g=bM e d f:=by
 unfold z8 at h;split at h
 ·simp at h;exact h.2.symm
 ·cases h
theorem zo {e:Env} {d:Option Nat}:bM e d .no=.no\/bM e d .no=.bo []\/bM e d .no=.sp:=by
 unfold bM;split
 ·exact .inl rfl
 ·split
  ·exact .inr (.inr rfl)
  ·split
   ·exact .inl rfl
   ·exact .inr (.inl rfl)
theorem JL {s s':St} {q:O} {f:Fq} (h:rA c call s q=some (s',f)) (hp:still q.kd=true):f=.no\/f=.bo []\/f=.sp:=by
 unfold rA at h;split at h
 ·split at h
  ·rename_i v s1 fl ho;rw[GN ho hp] at h;rw[z7 h]; exact zo
  ·cases h
 ·split at h
  ·split at h
   ·split at h
    ·rename_i v s1 fl ho;rw[GN ho hp] at h;rw[z7 h]; exact zo
    ·cases h
   ·rw[z7 h]; exact zo
  ·rw[z7 h]; exact zo
  ·cases h
theorem yn {un:List (Nat × Nat)}:∀{qs:List O} {k:Nat} {s s':St} {pX:List Fq},my c call qs s=some (s',pX)->Fm un k pX=true->∀(j:Nat) (q:O) (f:Fq),qs[j]?=some q->pX[j]?=some f->still q.kd=true->jF (k+j) (k+j) un=false->f=.no\/f=.bo []
 |[],_,_,_,_,_,_,j,q,f,hq,_,_,_=>by simp at hq
 |x::r,k,s,s',pX,h,hn,j,q,f,hq,hf,hp,hb=>by
   simp only[my] at h;split at h
   case h_2=>cases h
   rename_i s1 fl1 h1;split at h
   case h_2=>cases h
   rename_i s2 fl2 h2;simp at h;obtain⟨rfl,rfl⟩:=h;simp only[Fm,ae,dG] at hn;obtain⟨hn1,Yh⟩:=hn;cases j with
   |zero=>
     simp at hq hf hb;subst hq; subst hf;rw[hb] at hn1;rcases JL h1 hp with e|e|e
     ·exact .inl e
     ·exact .inr e
     ·subst e; simp[nT] at hn1
   |succ j=>simp at hq hf; exact yn h2 Yh j q f hq hf hp (by rw[show k+1+j=k+(j+1) by omega]; exact hb)
theorem E0 {N:Nat} {ops:Array Oper}:∀{l:List Oper} {qs:List O},qW P N ops l qs=true->l.length=qs.length/\∀ (j:Nat) (o:Oper) (q:O),l[j]?=some o->qs[j]?=some q->I9 P N ops o (L7 q)=true
 |[],[],_=>⟨rfl,fun j o q h=>by simp at h⟩
 |[],_::_,h=>by simp[qW] at h
 |_::_,[],h=>by simp[qW] at h
 |o::r,q::s,h=>by
   simp only[qW,ae] at h;obtain⟨hl,hm⟩:=E0 h.2;refine⟨by simp[hl],fun j o' q' h1 h2=>?_⟩;cases j with
   |zero=>simp at h1 h2; subst h1; subst h2; exact h.1
   |succ j=>simp at h1 h2; exact hm j o' q' h1 h2
theorem vY {un:List (Nat × Nat)} {j:Nat} {ys:List Nat} {q:O}:∀{k:Nat} {l:List O},tS un j ys q k l=true->∀(i:Nat) (x:O),l[i]?=some x->EZ un (k+i) j x ys q=true
 |k,[],_,i,x,h=>by simp at h
 |k,z::r,hc,i,x,h=>by
   simp only[tS,ae] at hc;cases i with
   |zero=>simp at h; subst h; exact hc.1
   |succ i=>simp at h; have:=vY hc.2 i x h; rwa [show k+1+i=k+(i+1) by omega] at this
theorem xQ {un:List (Nat × Nat)} {ops:Array Oper}:∀{ys:List Oper} {qs seen:List O} {Aj:List (List Nat)},nI un Aj seen ys qs=true->X9 ops Aj->Aj.length=seen.length->(∀j,ys[j]?=ops[seen.length+j]?)->∀(j:Nat) (y:Oper) (q:O),ys[j]?=some y->qs[j]?=some q ->
  (∀e∈y.after,Region.binds .any e=true->e.on<seen.length+j)/\∀ (i:Nat) (x:O),(seen++qs)[i]?=some x->i<seen.length+j->Anc ops i (seen.length+j)\/((jF i i un=false/\jF (seen.length+j) (seen.length+j) un=false)/\iW x q=true/\((still x.kd=true/\still q.kd=true)\/jF i (seen.length+j) un=true))
 |[],_,_,_,_,_,_,_,j,y,q,h,_=>by simp at h
 |_::_,[],_,_,_,_,_,_,j,y,q,_,h=>by simp at h
 |z::r,p::s,seen,Aj,hc,hanc,Jv,hys,j,y,q,h1,h2=>by
   simp only[nI,ae] at hc;obtain⟨⟨⟨_,c1⟩,c2⟩,c3⟩:=hc;have hz:ops[seen.length]?=some z:=by simpa using (hys 0).symm
   cases j with
   |zero=>
     simp at h1 h2;subst h1; subst h2;refine⟨fun e he hb=>?_,fun i x hx hi=>?_⟩
     ·have:=List.all_eq_true.1 c1 e.on (yB.2 ⟨e,he,hb,rfl⟩);simpa using this
     ·rw[au (by omega)] at hx;have:=vY c2 i x hx;simp only[EZ,eS,dG,ae,bn] at this;rcases this with h|h
      ·exact .inl (Mr hanc hz i (mem_iff.1 h))
      ·right;exact h
   |succ j=>
     simp at h1 h2
     have afO:X9 ops (Aj++[Fk Aj z]):=by
      intro k l hl i hi;by_cases hk:k<Aj.length
      ·rw[au hk] at hl; exact hanc k l hl i hi
      ·have hk2:=aj hl;simp at hk2;have hke:k=Aj.length:=by omega
       subst hke;simp at hl;subst hl;rw[Jv];exact Mr hanc hz i hi
     obtain⟨k1,k2⟩:=xQ c3 afO (by simp[Jv]) (fun m=>by have:=hys (m+1); simp at this ⊢; rw[this]; congr 1; omega) j y q h1 h2;simp only[bw,dz,fD] at k1 k2;refine⟨fun e he hb=>by have:=k1 e he hb; omega,fun i x hx hi=>?_⟩;have:=k2 i x (by simpa using hx) (by omega)
     rwa [show seen.length+(0+1)+j=seen.length+(j+1) by omega] at this
theorem uH {un:List (Nat × Nat)}:∀{ys:List Oper} {qs seen:List O} {Aj:List (List Nat)},nI un Aj seen ys qs=true->ys.length=qs.length->∀q∈qs,xN q.kd=true
 |[],[],_,_,_,_,q,hq=>by simp at hq
 |[],_::_,_,_,_,hl,_,_=>by simp at hl
 |_::_,[],_,_,_,hl,_,_=>by simp at hl
 |z::r,p::s,seen,Aj,hc,hl,q,hq=>by
   simp only[nI,ae] at hc;rcases aK.1 hq with e|e
   ·subst e; exact hc.1.1.1
   ·exact uH hc.2 (by simpa using hl) q e
theorem BO {os:List O} {pX:List Fq}:∀{un:List (Nat × Nat)},zF os pX un=true->∀i j,i≠j->jF i j un=true->ij (os.getD i ⟨none,none,.min []⟩) (pX.getD i .all) (os.getD j ⟨none,none,.min []⟩) (pX.getD j .all)=true
 |[],_,i,j,_,h=>by simp[jF] at h
 |p::r,hk,i,j,tn,h=>by
   obtain⟨x,y⟩:=p;simp only[zF,ae,dG,decide_eq_true_eq] at hk;simp only[jF,dG,ae,decide_eq_true_eq] at h;rcases h with⟨rfl,rfl⟩|h
   ·exact hk.1.resolve_left tn
   ·exact BO hk.2 i j tn h
theorem Im (x y:O) {f g:Fq} (hf:f=.no\/f=.bo []) (hg:g=.no\/g=.bo []):ij x f y g=true:=by
 have d:∀d,yS d (.bo [])=true:=fun d=>by cases d<;>rfl
 have d':∀d,yS d .no=true:=fun d=>by cases d<;>rfl
 rcases hf with rfl|rfl<;>rcases hg with rfl|rfl<;>simp[ij,Fq.ok,Ge,d,d']
theorem An.drew {X:Nat->Prop} {φ:cX} {w:World} {B:Nat->Nat} {base:Nat} {s:St} {a:Act} {N:Nat} (h:An X φ w B base s a N):An X φ w.drew B base s a N:=by
 obtain⟨N1,Ha,wJ,hb⟩:=h.sb;exact⟨⟨N1,Ha,wJ.nN (.drew _ _) (wJ.heap.of_same (ψ:=[]) ⟨rfl,rfl,rfl,Nat.le_succ _,aG _,fun g _ h=>⟨rfl,h⟩,.refl _⟩) wJ.own (fun _ _=>rfl),hb⟩,h.defers,h.size⟩
theorem Xt (cW:eM P c) (hS:X5 c call T) (hT:OI P c T) (hC:Mv T):Fx P c call:=by
 intro X φ w B base s s' pX a N id ops os un Q hN hc ho hs hd hr hg hQ;simp only[Hj,ae] at hd;obtain⟨hn,hd⟩:=hd;obtain⟨hl,hm⟩:=E0 hc;obtain⟨wZ,oQ⟩:=Kv hS un 0 ops.toList os s s' pX hl (uH ho hl) hs hn;have hlen:=BP 0 ops.toList os (Ej un 0 pX) hl (by rw[BQ]; exact wZ);have tM:eT φ w φ w.drew:=.drew _ _;have hord:=xQ (ops:=ops) ho (fun j l hl=>by simp at hl) rfl (fun j=>by simp);have uG:An X φ w.drew B base s a N:=hr.drew
 refine wp_region_any cW.mixed (aaT hT hC (X:=X) (B:=B) (base:=base) hN (sf:=s') ops.size (D9 0 ops.toList os (Ej un 0 pX)) _ a w.drew φ s (by simpa using hlen) (fun i=>?_) (by simp) (fun j o _ hl=>by simp[aW,kQ] at hl; split at hl<;>simp at hl) (fun p hp=>?_) ?_ oQ uG (hg.nN tM)
  fun a' w' φ' h k=>hQ a' w' φ' h (tM.trans k))
 ·by_cases hi:i<ops.size
  ·simp only[aW,kQ,hi,if_true,eX,true_iff];obtain⟨p,hp⟩:=aS (l:=D9 0 ops.toList os (Ej un 0 pX)) (i:=i) (by rw[hlen]; simpa using hi);exact⟨p,aU hp,by have:=(sY 0 _ _ _ i p hp).1; omega⟩
  ·simp only[aW,kQ,hi,if_false,Option.getD_none];refine⟨(fun h=>by cases h),fun⟨p,hp,WR⟩=>?_⟩;exfalso;obtain⟨j,hj⟩:=bt hp;have h1:=(sY 0 _ _ _ j p hj).1;have h2:=aj hj;rw[hlen] at h2;simp at h2;omega
 ·obtain⟨j,hj⟩:=bt hp;obtain⟨h1,h2,h3,h4⟩:=sY 0 _ _ _ j p hj;have h1':p.1=j:=by omega
  obtain⟨k1,_⟩:=hord j p.2.1 p.2.2.1 h2 h3;refine⟨by rw[h1']; simpa using h2,hm j _ _ h2 h3,fun e he hb=>?_⟩;have:=k1 e he hb;simp at this;omega
 ·rw[List.pairwise_iff_getElem];intro i j hi hj CF;obtain⟨h1,h2,h3,h4⟩:=sY 0 _ _ _ i _ (aB hi);obtain⟨k1,k2,k3,k4⟩:=sY 0 _ _ _ j _ (aB hj);refine⟨by omega,?_⟩;obtain⟨_,afC⟩:=hord j _ _ k2 k3;have:=afC i _ (by simpa using h3) (by simpa using CF);simp only[fD,eS] at this;rcases this with h|h
  ·left; rw[h1,k1]; simpa using h
  ·right;obtain⟨⟨zW,tL⟩,Bf,h⟩:=h;refine⟨Bf,?_⟩;rw[KY] at h4 k4;simp only[eS,zW,tL,bk,if_false,Option.map_id'] at h4 k4;rcases h with⟨h5,h6⟩|h5
   ·exact Im _ _ (yn hs hn i _ _ h3 h4 h5 (by simpa using zW)) (yn hs hn j _ _ k3 k4 h6 (by simpa using tL))
   ·have:=BO hd i j (by omega) h5;simp only[List.getD_eq_getElem?_getD,h3,k3,h4,k4,eX] at this;exact this
end
end Go.Bm

/- A step up to what can be seen of a state: StepT and SoundT. -/
namespace Go.Bm
open Go.Am
section
variable {P:Program} {c:dM} {call:Nat->List AV->Heap->Option (AV × Heap)}
def dy (s t:St):Prop:=(∀i,get s.env i=get t.env i)/\s.H=t.H
theorem dy.rfl' {s:St}:dy s s:=⟨fun _=>rfl,rfl⟩
theorem dy.symm {s t:St} (h:dy s t):dy t s:=⟨fun i=>(h.1 i).symm,h.2.symm⟩
theorem dy.trans {s t u:St} (h:dy s t) (k:dy t u):dy s u:=⟨fun i=>(h.1 i).trans (k.1 i),h.2.trans k.2⟩
theorem An.same {X:Nat->Prop} {φ:cX} {w:World} {B:Nat->Nat} {base:Nat} {s t:St} {a:Act} {N:Nat} (h:An X φ w B base s a N) (e:dy s t):An X φ w B base t a N:=by
 obtain⟨N1,Ha,wJ,zW,tL⟩:=h.sb;exact⟨⟨N1,Ha,wJ.ext (fun i=>(e.1 i).symm) e.2.symm,zW,by rw[<-e.2]; exact tL⟩,h.defers,h.size⟩
def zf:Fq->Fq->Prop
 |_,.all=>True
 |.wr sl bs,.wr sl' bs'=>(∀i∈sl,i∈sl')/\(match bs,bs' with
   |none,none=>True
   |some l,some l'=>∀b∈l,b∈l'
   |_,_=>False)
 |f,g=>f=g
theorem zf.refl (f:Fq):zf f f:=by
 cases f<;>try exact rfl
 case wr sl bs=>cases bs<;>simp[zf]
 case all=>trivial
def TS (c:dM) (call:Nat->List AV->Heap->Option (AV × Heap)) (s:St) (q:O) (f:Fq) (s':St):Prop:=
 xN q.kd=true/\∃ s0 s1 f0,dy s s0/\rA c call s0 q=some (s1,f0)/\zf f0 f/\dy s1 s'
theorem acj:X5 c call (TS c call):=fun s q f s' hk h=>⟨fun hf=>⟨hk,s,s',f,dy.rfl',h,.refl f,dy.rfl'⟩,⟨hk,s,s',f,dy.rfl',h,by cases f<;>trivial,dy.rfl'⟩⟩
theorem YB (Bc:HJ P c call):OI P c (TS c call):=by
 intro X φ w B base N ops s s' o a q f hN hc ⟨_,s0,s1,f0,e0,h,_,e1⟩ hr hg K Q hK;have Yg:=hr.same e0
 have hck:cG P o.op (kz q.kd)=true:=by
  have:=hc;simp only[I9,L7,ae] at this;exact this.2
 exact JJ (fun v s2 f hv=>Bc X φ w B base s0 o a q.kd v s2 f hck hv Yg.sb hg) hc hN h Yg fun a' w' φ' uG k'=>hK a' w' φ' (uG.same e1) k'
theorem TX (cW:eM P c) (Bc:HJ P c call) (hC:Mv (TS c call)):Fx P c call:=Xt cW acj (YB Bc) hC
end
end Go.Bm
