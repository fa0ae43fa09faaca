/- The machine by value: operations, calls, code. -/
import Derived.Test.YtbnheahpdodmjaaGreatDoorMc
import Derived.Scope
import Derived.Sort.Grow
import Derived.Deep.Draws
/- Operations that write: append, clear, stores. -/
set_option linter.unusedSimpArgs false
set_option linter.unusedVariables false
open Array renaming getD_eq_getD_getElem? → bh, getElem?_append_left → uJ, getElem?_append_right → Mx, getElem?_eq_none → Q9, getElem?_eq_some_iff → dV, getElem?_replicate → nD, getElem?_setIfInBounds_ne → jd, replicate → s9
open Bool renaming and_eq_false_iff → Vl, and_eq_true → ae, false_eq_true → bk, not_eq_true' → bJ, or_eq_false_iff → fa, or_eq_true → dT, true_and → jb
open Classical renaming byContradiction → qp
open Go.Sort renaming grow → Pu
open List renaming append_assoc → dJ, append_nil → jv, drop_eq_nil_of_le → Bj, eq_nil_of_length_eq_zero → eC, ext_getElem? → dN, getElem?_append_left → aq, getElem?_append_right → aM, getElem?_cons_succ → pq, getElem?_drop → bf, getElem?_eq_getElem → ai, getElem?_eq_none → cE, getElem?_map → cn, getElem?_of_mem → bE, getElem?_replicate → jw, getElem?_set → aR, getElem?_set_ne → cQ, getElem?_take → bP, isEmpty_iff → fy, length_append → bK, length_cons → cc, length_nil → eH, length_set → bG, length_take → bw, mem_append → aF, mem_cons → aG, mem_of_getElem? → bn, mem_of_mem_drop → di, mem_of_mem_take → dh, mem_or_eq_of_mem_set → Ps, pairwise_append → ue, rel_of_pairwise_cons → Pq, replicate → aW, take_append_drop → Vi, take_zero → qi
open Nat renaming add_mul → cK, le_refl → aO, le_trans → MG, lt_of_lt_of_le → eY, mul_le_mul_right → bS, zero_add → fX, zero_le → jN, zero_mul → qU
open Ne renaming symm → jF
open Option renaming getD_some → dY, isSome_iff_exists → aU, map_some → cD
open Option.some renaming inj → bm, injEq → af
open Prod.mk renaming injEq → aC
namespace Go.Bm
open Go.Am
section
variable {P:Program} {X:Nat->Prop} {φ φ':dj} {w w':World} {N N':Names} {s s1:St} {Ha Ha':Heap} {t:Nat->Value} {B:Nat->Nat} {base:Nat} {v va:AV} {v':Value} {c:eI} {o:Oper} {a:Act} {kd:Kd}
theorem xk {l:List AV} (h:∀x∈l,x.leaf=true):bC l=true:=by
 induction l with
 |nil=>rfl
 |cons y r ih=>simp only[bC,ae]; exact⟨h y (by simp),ih fun x hx=>h x (by simp[hx])⟩
theorem Ak {l:List AV} (h:bC l=true):∀x∈l,x.leaf=true:=by
 induction l with
 |nil=>intro x hx; simp at hx
 |cons y r ih=>
   intro x hx;simp only[bC,ae] at h;rcases aG.1 hx with e|e
   ·subst e; exact h.1
   ·exact ih h.2 x e
theorem A8 {k:Nat} {xs:List AV} (h:∀x∈xs,x.cells.length=k) (n:Nat):aA (xs.take n)=(aA xs).take (n*k):=by
 induction xs generalizing n with
 |nil=>simp[aA]
 |cons x r ih=>
   cases n with
   |zero=>simp[aA]
   |succ n=>
     have hx:=h x (by simp);simp only[List.take_succ_cons,aA,ih (fun y hy=>h y (by simp[hy])) n];rw[List.take_append,hx,cK,Nat.one_mul,List.take_of_length_le (by omega:x.cells.length<=n*k+k),Nat.add_sub_cancel]
theorem OQ {k:Nat} {xs:List AV} (h:∀x∈xs,x.cells.length=k) (n:Nat):aA (xs.drop n)=(aA xs).drop (n*k):=by
 induction xs generalizing n with
 |nil=>simp[aA]
 |cons x r ih=>
   cases n with
   |zero=>simp
   |succ n=>
     have hx:=h x (by simp);simp only[List.drop_succ_cons,aA,ih (fun y hy=>h y (by simp[hy])) n];rw[List.drop_append,hx,cK,Nat.one_mul,Bj (by omega:x.cells.length<=n*k+k),List.nil_append,Nat.add_sub_cancel]
theorem gN {k:Nat} {xs:List AV} (h:∀x∈xs,x.cells.length=k):(aA xs).length=xs.length*k:=(fx h).1
theorem IQ (h:eW X φ w N s Ha (tm a)) (hg:Am.dX (hU c) X φ w) {k:Nat} {x:E} {o':Operand} (ho:cY o' (ny x)=true) {ys:List AV} (hc:cont s k (bp c s.env x)=some ys) (A3:bC (aA ys)=true) :
  ∃ news,jG Ha k (Am.ev (hU c) (Dg N s.env) (ny x))=some (news,ys.length)/\news.length=ys.length*k/\(∀y∈ys,y.cells.length=k)/\bC news=true /\
   ∀ (i:Nat) (d:AV),(aA ys)[i]?=some d->fz d=true/\∃ e,news[i]?=some e/\e.leaf=true/\Le d e:=by
 have hx:=cJ (c:=c) (cA:=hU c) h rfl ho;have dm:=hx.ok;have r:=bZ (c:=hU c) (env:=Dg N s.env) (a:=a) (fun i=>by rw[oY]; exact h.env i) hg ho;rw[hx.ev] at r ⊢;cases e:bp c s.env x<;>rw[e] at hc dm r<;>try (simp[cont] at hc; done)
 ·rename_i k' xs;simp only[cont] at hc;split at hc
  case isFalse=>cases hc
  rename_i wh;subst wh;simp at hc;subst hc;simp only[gL,cS,jG,if_true] at r ⊢
  have iS:(∀y∈xs,y.cells.length=k')/\∀ y∈xs,∀d∈y.cells,pl d=true:=by
   generalize a.eval o'=z at r;cases r with
   |yd _ _ _ ad n cap u hn iC hk hu h=>
     refine⟨hk,fun y hy d hd=>?_⟩;obtain⟨i,hi⟩:=bE hy;obtain⟨j,hj⟩:=bE hd;exact acE (h i j y d hi hj) rfl
   |lx=>exact⟨fun y hy=>by simp at hy,fun y hy=>by simp at hy⟩
  refine⟨aA xs,rfl,gN iS.1,iS.1,A3,fun i d hd=>?_⟩;obtain⟨i',y,j,h1,h2,_⟩:=(fx iS.1).2 i d hd;have hdl:=Ak A3 d (bn hd);refine⟨?_,d,hd,hdl,Le.refl _⟩;unfold fz;rw[hdl,iS.2 y (bn h1) d (bn h2)];rfl
 ·rename_i k' xs;have:=hx.eo k' xs e;subst this;simp[cont] at hc;subst hc;exact⟨[],by simp[gL,jG],by simp,fun y hy=>by simp at hy,rfl,fun i d hd=>by simp[aA] at hd⟩
 ·rename_i k' p off len;simp only[cont] at hc;split at hc
  case h_2=>cases hc
  rename_i AX xs hp;split at hc
  case isFalse=>cases hc
  rename_i hcc;obtain⟨rfl,rfl,hle⟩:=hcc;simp at hc;subst hc;have eU:=h.own p AX xs hp;simp only[gL];rcases vj h dm with⟨n,hn,e2⟩|⟨hn,h0,h1,e2⟩
  ·rw[e2];rw[hn] at eU;obtain⟨cs,c1,c2,c3,c4⟩:=eU
   have hb:off*AX+len*AX<=cs.length:=by
    have:(off+len)*AX<=xs.length*AX:=bS AX hle;rw[cK] at this;omega
   have hys:∀y∈(xs.drop off).take len,y.cells.length=AX:=fun y hy=>c3 y (di (dh hy));have hl:((xs.drop off).take len).length=len:=by simp; omega
   have idx:∀(i:Nat) (d:AV),(aA ((xs.drop off).take len))[i]?=some d->fz d=true/\∃ e,((cs.drop (off*AX)).take (len*AX))[i]?=some e/\e.leaf=true/\Le d e:=by
    intro i d hd;rw[A8 (fun y hy=>c3 y (di hy)),OQ c3,bP] at hd;split at hd
    case isFalse=>cases hd
    rename_i hi;rw[bf] at hd;obtain⟨f1,e,f2,f3,f4⟩:=c4 _ d hd;exact⟨f1,e,by rw[bP,if_pos hi,bf]; exact f2,f3,f4⟩
   refine⟨(cs.drop (off*AX)).take (len*AX),by simp only[jG,c1,hl]; rw[if_pos ⟨trivial,hb⟩],by rw[hl]; simp; omega,hys,xk fun x hx=>?_,idx⟩;obtain⟨i,hi⟩:=bE hx;have bF:=ak hi;have:i<(aA ((xs.drop off).take len)).length:=by rw[gN hys,hl]; simp at bF; omega
   obtain⟨d,hd⟩:=bq this;obtain⟨_,e,g2,g3,_⟩:=idx i d hd;rw[hi] at g2;cases g2;exact g3
  ·rw[e2];subst h1;exact⟨[],by simp[jG],by simp,fun y hy=>by simp at hy,rfl,fun i d hd=>by simp[aA] at hd⟩
theorem agQ (hm:P.follows .mixedOrders=true) (h:SB X φ w B base s (tm a)) (hg:Am.dX (hU c) X φ w) {k k':Nat} {x y:E} (hk:cX P o.op (mV (.app k x y))=true) (yx:bp c s.env x=.own k' []) {ys:List AV} (hy:cont s k (bp c s.env y)=some ys) (A3:bC (aA ys)=true) (hl:ys.length<=lU) :
  nh P X φ w B base s (.own k ys) o a:=by
 obtain⟨N,Ha,h,hb⟩:=h;obtain⟨⟨o1,h1⟩,o2,h2⟩:=aa7 hk;have hx:=cJ (c:=c) (cA:=hU c) h rfl h1;obtain⟨news,n1,n2,n3,n4,n5⟩:=IQ h hg h2 hy A3;by_cases h0:ys.length=0
 ·have:ys=[]:=eC h0;subst this;refine nh.of (mZ (va:=.du) (Ha':=Ha) hm h hg hk (by simp only[mV,fO,n1,hx.ev,yx,gL,eH,if_true]; rfl)) fun v' w' φ' r hh ad=>?_;exact dU.quiet (h.nZ ad hh h.own (fun _ _=>rfl)) hb trivial (by simp[EO]) r
 ·refine nh.of (mZ (va:=.sl k Ha.length 0 ys.length) (Ha':=Ha++[some news]) hm h hg hk (by simp only[mV,fO,n1,hx.ev,yx,gL,if_neg h0,if_pos (⟨hl,n4⟩:ys.length<=lU/\bC news=true)]; rfl)) fun v' w' φ' r hh ad=>?_;exact EH h hb ad hh (by omega) n3 n5 r
theorem agP (hm:P.follows .mixedOrders=true) (h:SB X φ w B base s (tm a)) (hg:Am.dX (hU c) X φ w) {k len:Nat} {x y:E} (hk:cX P o.op (mV (.app k x y))=true) {p:Rt} {xs:List AV} (yx:bp c s.env x=.dP k p 0 len) (hp:az s p=some (k,xs)) (hle:len<=xs.length) {ys:List AV} (hy:cont s k (bp c s.env y)=some ys) (A3:bC (aA ys)=true) (hl:len+ys.length<=lU) :
  nh P X φ w B base (setAt (cB (sw p) s) p .any) (.own k (xs.take len++ys)) o a:=by
 obtain⟨N,Ha,h,hb⟩:=h;obtain⟨⟨o1,h1⟩,o2,h2⟩:=aa7 hk;have hx:=cJ (c:=c) (cA:=hU c) h rfl h1;have dm:=hx.ok;rw[yx] at dm;obtain⟨news,n1,n2,n3,n4,n5⟩:=IQ h hg h2 hy A3;obtain⟨d1,d2,d3⟩:=h.drop hp;have BV:(∀b,b<base->N.β b=B b)/\base<=(setAt (cB (sw p) s) p .any).H.length:=⟨hb.1,by rw[d3.len]; exact hb.2⟩;have eU:=h.own p k xs hp;rcases vj h dm with⟨n,hn,e2⟩|⟨hn,_,TT,e2⟩
 ·rw[hn] at eU;obtain⟨cs,c1,c2,c3,c4⟩:=eU;have Ih:len*k<=cs.length:=MG (bS k hle) c2;have hnlt:=dL c1;refine nh.of (mZ (va:=.sl k Ha.length 0 (len+ys.length)) (Ha':=Ha.set n none++[some (cs.take (len*k)++news)]) hm h hg hk (by simp only[mV,fO,n1,hx.ev,yx,gL,e2,qU,c1,if_pos (⟨trivial,Ih,hl,n4⟩:True/\len*k<=cs.length/\len+ys.length<=lU/\bC news=true)]; rfl)) fun v' w' φ' r hh ad=>?_;have Ie:∀m,m≠n->aJ (Ha.set n none) m=aJ Ha m:=fun m E5=>by unfold aJ; rw[cQ (jF E5)]
  have lG:∀m,m≠n->m<Ha.length->aJ (Ha.set n none++[some (cs.take (len*k)++news)]) m=aJ Ha m:=fun m E5 bF=>by
   rw[fE,if_neg (by simp; omega),Ie m E5]
  have fY:eW X φ' w' N (setAt (cB (sw p) s) p .any) (Ha.set n none++[some (cs.take (len*k)++news)]) (tm a):=by
   refine d1.nZ ad hh (fun q k' zs e=>?_) (fun b EE=>?_)
   ·have e':=e;rw[d2] at e';split at e'
    ·cases e'
    rename_i qJ;refine (d1.own q k' zs e).same fun m hmq=>lG m ?_ ?_
    ·rintro rfl;exact qJ (h.inj q p m (by rw[e']; rfl) (by rw[hp]; rfl) hmq hn)
    ·exact h.gJ (by rw[e']; rfl) hmq
   ·have M3:(aJ s.H b).isSome:=by
     cases e:aJ s.H b with
     |none=>rw[d3.Fw b e] at EE; cases EE
     |some _=>rfl
    refine lG _ ?_ (h.tP M3);intro e;exact h.bx b p M3 (by rw[hp]; rfl) (by rw[hn,e])
  have TU:(xs.take len++ys).length=len+ys.length:=by simp; omega
  have htk:∀z∈xs.take len,z.cells.length=k:=fun z hz=>c3 z (dh hz);refine dU.fresh fY BV (n:=Ha.length) ⟨cs.take (len*k)++news,by rw[fE,if_pos (by simp)],?_,?_,?_⟩ (fun q hq e=>?_) (fun b EE e=>?_) (by rw[TU]; exact r)
  ·rw[TU,cK,bK,bw,n2]; omega
  ·intro z hz;rcases aF.1 hz with hz|hz
   ·exact htk z hz
   ·exact n3 z hz
  ·intro i d hd;rw[l6,A8 c3] at hd
   have hlt1:((aA xs).take (len*k)).length=len*k:=by
    have:=gN c3;have:len*k<=xs.length*k:=bS k hle;rw[bw]; omega
   rw[List.getElem?_append] at hd;rw[hlt1] at hd;split at hd
   ·rename_i hi;rw[bP,if_pos hi] at hd;obtain⟨f1,e,f2,f3,f4⟩:=c4 i d hd;exact⟨f1,e,by rw[aq (by simp; omega),bP,if_pos hi]; exact f2,f3,f4⟩
   ·rename_i hi;obtain⟨f1,e,f2,f3,f4⟩:=n5 _ d hd;refine⟨f1,e,?_,f3,f4⟩;rw[aM (by simp; omega)];rw[bw,Nat.min_eq_left Ih];exact f2
  ·have hq':(az s q).isSome:=by
    rw[d2] at hq;split at hq
    ·cases hq
    ·exact hq
   have:=h.gJ hq' e;omega
  ·have M3:(aJ s.H b).isSome:=by
    cases e:aJ s.H b with
    |none=>rw[d3.Fw b e] at EE; cases EE
    |some _=>rfl
   have:=h.tP M3;omega
 ·rw[hn] at eU;have hxs:xs=[]:=eU;subst hxs;subst TT
  have simq:∀{φ' w' Ha'},fg φ w φ' w'->cj X φ' w' Ha'->(∀m,m<Ha.length->aJ Ha' m=aJ Ha m)->eW X φ' w' N (setAt (cB (sw p) s) p .any) Ha' (tm a):=by
   intro φ' w' Ha' ad hh lG;refine d1.nZ ad hh (fun q k' zs e=>?_) (fun b EE=>?_)
   ·exact (d1.own q k' zs e).same fun m hmq=>lG m (d1.gJ (by rw[e]; rfl) hmq)
   ·exact lG _ (d1.tP EE)
  by_cases h0:ys.length=0
  ·have:ys=[]:=eC h0;subst this;refine nh.of (mZ (va:=.du) (Ha':=Ha) hm h hg hk (by simp only[mV,fO,n1,hx.ev,yx,gL,e2,eH,if_true]; rfl)) fun v' w' φ' r hh ad=>?_;exact dU.quiet (simq ad hh fun _ _=>rfl) BV trivial (by simp[EO]) r
  ·have MY:ys.length<=lU:=by omega
   refine nh.of (mZ (va:=.sl k Ha.length 0 ys.length) (Ha':=Ha++[some news]) hm h hg hk (by simp only[mV,fO,n1,hx.ev,yx,gL,e2,if_neg h0,if_pos (⟨MY,n4⟩:ys.length<=lU/\bC news=true)]; rfl)) fun v' w' φ' r hh ad=>?_;have fY:=simq ad hh fun m bF=>by rw[fE,if_neg (by omega)]
   refine dU.fresh fY BV (n:=Ha.length) ⟨news,Ma _ _,by simp; omega,by simpa using n3,by simpa using n5⟩ (fun q hq e=>?_) (fun b EE e=>?_) (by simpa using r)
   ·have:=d1.gJ hq e; omega
   ·have:=d1.tP EE; omega
end
end Go.Bm

/- Stores and clearing. -/
namespace Go.Bm
open Go.Am
mutual
theorem Z8 {o o':Rt->Option (Nat × List AV)} {nb:Nat} (ho:∀p k xs,o p=some (k,xs)->∃ys,o' p=some (k,ys)/\xs.length<=ys.length):∀x,cP o nb x->cP o' nb x
 |.dP k p off len,h=>by simp only[cP] at h ⊢; obtain⟨xs,e,h2⟩:=h; obtain⟨ys,e2,h3⟩:=ho p k xs e; exact⟨ys,e2,by omega⟩
 |.fv k p i off,h=>by simp only[cP] at h ⊢; obtain⟨xs,e,h2⟩:=h; obtain⟨ys,e2,h3⟩:=ho p k xs e; exact⟨ys,e2,by omega⟩
 |.ptr b off,h=>h
 |.agg cs,h=>by simp only[cP] at h ⊢; exact D9 ho cs h
 |.dt cs,h=>by simp only[cP] at h ⊢; exact D9 ho cs h
 |.func f a b,h=>by simp only[cP] at h ⊢; exact⟨D9 ho a h.1,D9 ho b h.2.1,h.2.2⟩
 |.any,_=>trivial
 |.undef,_=>trivial
 |.fN,_=>trivial
 |.fS,_=>trivial
 |.du,_=>trivial
 |.int _ _,_=>trivial
 |.bool _,_=>trivial
 |.str _,_=>trivial
 |.list _ _,_=>trivial
 |.dy _,_=>trivial
 |.own _ _,_=>trivial
 |.sl _ _ _ _,h=>h
theorem D9 {o o':Rt->Option (Nat × List AV)} {nb:Nat} (ho:∀p k xs,o p=some (k,xs)->∃ys,o' p=some (k,ys)/\xs.length<=ys.length):∀cs,mg o nb cs->mg o' nb cs
 |[],_=>trivial
 |x::r,h=>⟨Z8 ho x h.1,D9 ho r h.2⟩
end
theorem nt {l vs:List AV} {off:Nat} (h:off+vs.length<=l.length) (m:Nat):(j9 l off vs)[m]?=if m<off then l[m]? else if m<off+vs.length then vs[m-off]? else l[m]?:=by
 unfold j9;have h1:(l.take off).length=off:=by simp; omega
 by_cases a:m<off
 ·rw[if_pos a,dJ,aq (by omega),bP,if_pos a]
 ·rw[if_neg a];by_cases b:m<off+vs.length
  ·rw[if_pos b,dJ,aM (by omega),h1,aq (by omega)]
  ·rw[if_neg b,aM (by simp; omega),bf];congr 1;simp; omega
section
variable {P:Program} {X:Nat->Prop} {φ φ':dj} {w w':World} {N N':Names} {s s1:St} {Ha Ha':Heap} {t:Nat->Value} {B:Nat->Nat} {base:Nat} {v va:AV} {v':Value} {c:eI} {o:Oper} {a:Act} {kd:Kd}
theorem afW {p:Rt} {k:Nat} {xs xs':List AV} (hp:az s p=some (k,xs)) (hl:xs'.length=xs.length) (i:Nat):lT N i (get (setAt s p (.own k xs')).env i)=lT N i (get s.env i):=by
 have yH:=cC.1 hp;cases p with
 |s j=>
   simp only[at_,af] at yH;simp only[setAt,bN];by_cases e:i=j
   ·subst e; rw[if_pos rfl,yH]; simp only[lT,jx,hl]
   ·rw[if_neg e]
 |sc j l=>
   simp only[at_] at yH;cases hg:get s.env j<;>rw[hg] at yH<;>simp at yH
   rename_i ds;have hs:setAt s (.sc j l) (.own k xs')=⟨put s.env j (.agg (ds.set l (.own k xs'))),s.H⟩:=by simp[setAt,hg]
   rw[hs];simp only[bN];by_cases e:i=j
   ·subst e;rw[if_pos rfl,hg];simp only[lT];congr 1;apply dN;intro m;rw[gb,gb,aR];by_cases hm:l=m
    ·subst hm;rw[if_pos rfl,if_pos (ak yH),yH];simp only[cD,jx,hl]
    ·rw[if_neg hm]
   ·rw[if_neg e]
 |c b l=>
   simp only[at_] at yH;cases hg:aJ s.H b<;>rw[hg] at yH<;>simp at yH
   simp[setAt,hg]
theorem eW.upd (h:eW X φ w N s Ha t) {p:Rt} {k n:Nat} {xs xs':List AV} (hp:az s p=some (k,xs)) (hn:N.ν p=some n) (hl:xs'.length=xs.length) (ad:fg φ w φ' w') (hh:cj X φ' w' Ha') (ho:qQ Ha' (some n) k xs') (hb:∀m,m≠n->aJ Ha' m=aJ Ha m) :
  eW X φ' w' N (setAt s p (.own k xs')) Ha' t/\Shape s (setAt s p (.own k xs')):=by
 have yH:=cC.1 hp;have qK:Fits s p (.own k xs'):=⟨(fun cs e=>by cases e),_,yH,(fun cs e=>by cases e)⟩;have jz:=Shape.set qK;generalize MC:setAt s p (.own k xs')=s' at jz ⊢
 have own:∀q,az s' q=if q=p then some (k,xs') else az s q:=by
  refine AM jz (fun q hq=>?_) (fun q hq=>?_)
  ·have e:at_ s' q=if q=p then some (.own k xs') else at_ s q:=by rw[<-MC]; exact F9 qK hq
   by_cases qJ:q=p
   ·rw[if_pos qJ] at e ⊢; exact cC.2 e
   ·rw[if_neg qJ] at e ⊢; exact iN e
  ·rw[if_neg (by rintro rfl; exact hq (Kz (by rw[hp]; rfl)))];exact vI hq
 have hlen:∀q k' ys,az s q=some (k',ys)->∃zs,az s' q=some (k',zs)/\ys.length<=zs.length:=by
  intro q k' ys e;rw[own];by_cases qJ:q=p
  ·subst qJ;rw[hp] at e;cases e;exact⟨xs',by rw[if_pos rfl],by omega⟩
  ·exact⟨ys,by rw[if_neg qJ]; exact e,aO _⟩
 have oiff:∀{q},(az s' q).isSome->(az s q).isSome:=by
  intro q hq;rw[own] at hq;by_cases qJ:q=p
  ·subst qJ; rw[hp]; rfl
  ·rw[if_neg qJ] at hq; exact hq
 have biff:∀{b},(aJ s'.H b).isSome->(aJ s.H b).isSome:=by
  intro b hb;cases e:aJ s.H b with
  |none=>rw[jz.Fw b e] at hb; cases hb
  |some _=>rfl
 have okk:∀r y,Lf s' r->at_ s' r=some y->cP (az s') s'.H.length y:=by
  intro r y hr hy;obtain⟨ye,x,hx⟩:=jz.back hr hy;have e:at_ s' r=if r=p then some (.own k xs') else at_ s r:=by rw[<-MC]; exact F9 qK ye
  rw[e] at hy;by_cases Ig:r=p
  ·rw[if_pos Ig] at hy; cases hy; trivial
  ·rw[if_neg Ig] at hy;rw[jz.len];exact Z8 hlen y (h.D8 hy)
 obtain⟨hk,hkc⟩:=KE okk;refine⟨⟨fun i=>?_,hk,hh,fun q k' ys e=>?_,fun b cs e=>?_,fun q r m e1 e2 e3 e4=>h.inj q r m (oiff e1) (oiff e2) e3 e4,fun b q e1 e2 e3=>h.bx b q (biff e1) (oiff e2) e3,fun b d e1 e2 e3=>h.bi b d (biff e1) (biff e2) e3⟩,jz⟩
 ·rw[<-MC,afW hp hl]; exact ad.rep (h.env i)
 ·rw[own] at e;by_cases qJ:q=p
  ·subst qJ;rw[if_pos rfl] at e;cases e;rw[hn];exact ho
  ·rw[if_neg qJ] at e;refine (h.own q k' ys e).same fun m hm=>hb m ?_;rintro rfl;exact qJ (h.inj q p m (by rw[e]; rfl) (by rw[hp]; rfl) hm hn)
 ·cases M3:aJ s.H b with
  |none=>rw[jz.Fw b M3] at e; cases e
  |some cs0=>
    obtain⟨ds,q1,q2⟩:=jz.box b cs0 M3;rw[e] at q1; cases q1;obtain⟨as,g1,g2,g3⟩:=h.box b cs0 M3;refine⟨as,?_,by omega,fun j d hd=>⟨hkc b cs e j d hd,?_⟩⟩
    ·rw[hb]
     ·exact g1
     ·intro e3; exact h.bx b p (by rw[M3]; rfl) (by rw[hp]; rfl) (by rw[hn,e3])
    ·obtain⟨d0,hd0⟩:=bq (l:=cs0) (i:=j) (by have:=ak hd; omega);obtain⟨_,a',a1,a2⟩:=g3 j d0 hd0;refine⟨a',a1,?_⟩;have e3:at_ s' (.c b j)=if Rt.c b j=p then some (.own k xs') else at_ s (.c b j):=by rw[<-MC]; exact F9 qK (fun i e=>by cases e)
     rw[Af e,Af M3,hd,hd0] at e3;by_cases Ig:Rt.c b j=p
     ·rw[if_pos Ig] at e3;cases e3
      have hat':d0=.own k xs:=by
       rw[<-Ig,Af M3,hd0] at yH;exact bm yH
      subst hat';simp only[jx,hl] at a2 ⊢;exact a2
     ·rw[if_neg Ig] at e3;cases e3;exact a2
theorem Vq {k off:Nat} {x:AV} {vs:List AV} (hx:x.cells.length=k) (hf:off+vs.length<=k):(Re k x off vs).cells=j9 x.cells off vs:=by
 unfold Re;split
 ·rename_i h;rw[vU];obtain⟨rfl,hl⟩:=h;unfold j9;rw[Bj (by omega)];simp
 ·rw[vU]
theorem XI:∀{cs:List AV},E8 cs=true->iI N cs=cs
 |[],_=>rfl
 |x::r,h=>by
   simp only[E8,ae] at h;simp only[iI];rw[XI h.2];have:=(mh h.1).1;congr 1;cases x<;>first|exact l9 N _ this|(simp[pl] at this; done)
theorem akh (hm:P.follows .mixedOrders=true) (h:SB X φ w B base s (tm a)) (hg:Am.dX (hU c) X φ w) {k k' i off:Nat} {x y:E} {p:Rt} {xs:List AV} {u:AV} (hk:cX P o.op (mV (.st k x y))=true) (yx:bp c s.env x=.fv k' p i off) (hp:az s p=some (k',xs)) (hu:xs[i]?=some u)
  (h1:(bp c s.env y).cells.length=k) (h2:off+k<=k') (h3:E8 (bp c s.env y).cells=true):nh P X φ w B base (setAt s p (.own k' (xs.set i (Re k' u off (bp c s.env y).cells)))) .undef o a:=by
 obtain⟨N,Ha,h,hb⟩:=h;obtain⟨⟨o1,c1⟩,o2,c2⟩:=alk hk;have hx:=cJ (c:=c) (cA:=hU c) h rfl c1;have hy:=cJ (c:=c) (cA:=hU c) h rfl c2;have dm:=hx.ok;rw[yx] at dm;obtain⟨n,hn,e2⟩:=Ku h dm;have eU:=h.own p k' xs hp;rw[hn] at eU;obtain⟨cs,q1,q2,q3,q4⟩:=eU;generalize QZ:(bp c s.env y).cells=vs at h1 h3 ⊢;have iS:(Am.ev (hU c) (Dg N s.env) (ny y)).cells=vs:=by rw[hy.ev,L0 N hy.na,QZ,XI h3]
 have A3:bC vs=true:=xk fun z hz=>(mh (qf h3 z hz)).2;have huk:u.cells.length=k':=q3 u (bn hu);have hilt:=ak hu;have wi:(i+1)*k'<=xs.length*k':=bS k' hilt;rw[cK] at wi;have qK:i*k'+off+k<=cs.length:=by omega
 refine nh.of (mZ (va:=.undef) (Ha':=Ha.set n (some (j9 cs (i*k'+off) vs))) hm h hg hk (by simp only[mV,fO,hx.ev,yx,gL,e2,q1,iS,if_pos (⟨h1,qK,A3⟩:vs.length=k/\i*k'+off+k<=cs.length/\bC vs=true)]; rfl)) fun v' w' φ' r hh ad=>?_;have WD:=Vq (k:=k') (off:=off) (vs:=vs) huk (by omega)
 have hnew:qQ (Ha.set n (some (j9 cs (i*k'+off) vs))) (some n) k' (xs.set i (Re k' u off vs)):=by
  refine⟨j9 cs (i*k'+off) vs,by rw[dz,if_pos ⟨rfl,dL q1⟩],?_,?_,?_⟩
  ·rw[bG,gK (by omega)]; exact q2
  ·intro z hz;rcases Ps hz with hz|rfl
   ·exact q3 z hz
   ·rw[WD,gK (by omega),huk]
  ·have aiY:∀z∈xs.set i (Re k' u off vs),z.cells.length=k':=by
    intro z hz;rcases Ps hz with hz|rfl
    ·exact q3 z hz
    ·rw[WD,gK (by omega),huk]
   intro m d hd;obtain⟨i',z,j,z1,z2,z3⟩:=(fx aiY).2 m d hd;have hj:j<k':=by rw[<-aiY z (bn z1)]; exact ak z2
   rw[aR] at z1;by_cases hii:i=i'
   ·subst hii;rw[if_pos rfl,if_pos hilt] at z1;cases z1;rw[WD,nt (by omega)] at z2
    have MQ:u.cells[j]?=some d->j<off\/¬ j<off+vs.length->fz d=true/\∃ e,(j9 cs (i*k'+off) vs)[m]?=some e/\e.leaf=true/\Le d e:=by
     intro e hc;obtain⟨f1,e',f2,f3,f4⟩:=q4 _ d (EI q3 hu e);refine⟨f1,e',?_,f3,f4⟩;rw[z3,nt (by omega)];rcases hc with hc|hc
     ·rw[if_pos (by omega)]; exact f2
     ·rw[if_neg (by omega),if_neg (by omega)]; exact f2
    split at z2
    ·rename_i hc; exact MQ z2 (.inl hc)
    ·split at z2
     ·rename_i Va IJ;have hz:=qf h3 d (bn z2);refine⟨hz,d,?_,(mh hz).2,Le.refl _⟩;rw[z3,nt (by omega),if_neg (by omega),if_pos (by omega),show i*k'+j-(i*k'+off)=j-off by omega];exact z2
     ·rename_i Va IJ; exact MQ z2 (.inr IJ)
   ·rw[if_neg hii] at z1;obtain⟨f1,e',f2,f3,f4⟩:=q4 _ d (EI q3 z1 z2);refine⟨f1,e',?_,f3,f4⟩;rw[z3,nt (by omega)];rcases Nat.lt_or_gt_of_ne hii with bF|hgt
    ·have:(i+1)*k'<=i'*k':=bS k' bF;rw[cK] at this;rw[if_neg (by omega),if_neg (by omega)];exact f2
    ·have:(i'+1)*k'<=i*k':=bS k' hgt;rw[cK] at this;rw[if_pos (by omega)];exact f2
 obtain⟨fY,jz⟩:=h.upd (xs':=xs.set i (Re k' u off vs)) hp hn (by simp) ad hh hnew (fun m E5=>by rw[dz,if_neg (fun e=>E5 e.1)]);exact dU.quiet fY ⟨hb.1,by rw[jz.len]; exact hb.2⟩ trivial trivial r
end
end Go.Bm

/- Stores into boxes. -/
namespace Go.Bm
open Go.Am
section
variable {P:Program} {X:Nat->Prop} {φ φ':dj} {w w':World} {N N':Names} {s s' s1:St} {Ha Ha':Heap} {t t':Nat->Value} {B:Nat->Nat} {base:Nat} {v va:AV} {v':Value} {c:eI} {o:Oper} {a:Act} {kd:Kd}
theorem vM (i b off:Nat):∀k p x l,iP i b off (.dP k p x l)=.dP k (gM i b off p) x l/\iP i b off (.fv k p x l)=.fv k (gM i b off p) x l:=fun _ _ _ _=>⟨rfl,rfl⟩
theorem AB (N:Names) (i:Nat) (v:AV):(lT N i v).cells.length=v.cells.length/\∀ (j:Nat) (d:AV),v.cells[j]?=some d->(lT N i v).cells[j]?=some (jx N (match v with
  |.agg _=>.sc i j
  |_=>.s i) d):=by
 by_cases ha:∃cs,v=.agg cs
 ·obtain⟨cs,rfl⟩:=ha;simp only[lT,AV.cells];exact⟨gH _ _ _ _,fun j d hd=>by rw[gb,hd]; simp⟩
 ·have hn:kh v:=fun cs e=>ha ⟨cs,e⟩;have e1:lT N i v=jx N (.s i) v:=by cases v<;>first|rfl|exact absurd rfl (hn _)
  have e2:v.cells=[v]:=by cases v<;>first|rfl|exact absurd rfl (hn _)
  have e3:(jx N (.s i) v).cells=[jx N (.s i) v]:=by
   cases v<;>first
    |rfl
    |exact absurd rfl (hn _)
    |(rename_i k xs; simp only[jx,rU]; cases N.ν (.s i)<;>rfl)
    |(rename_i k p x l; simp only[jx,cS]; cases N.ν p<;>rfl)
  rw[e1,e2,e3];refine⟨rfl,fun j d hd=>?_⟩;cases j with
  |zero=>
    simp at hd;subst hd;cases v<;>first|rfl|exact absurd rfl (hn _)
  |succ j=>simp at hd
theorem KV {g:AV->AV} (hg:lN g) (v:AV):(cT g v).cells=dc g v.cells:=by
 by_cases ha:∃cs,v=.agg cs
 ·obtain⟨cs,rfl⟩:=ha;simp[cT,AV.cells]
 ·have hn:kh v:=fun cs e=>ha ⟨cs,e⟩;have hn2:=nS hg hn;have e2:v.cells=[v]:=by cases v<;>first|rfl|exact absurd rfl (hn _)
  rw[e2];simp only[dc];generalize cT g v=y at hn2;cases y<;>first|rfl|exact absurd rfl (hn2 _)
def tN (i:Nat) (v:AV) (j:Nat):Rt:=
 match v with
 |.agg _=>.sc i j
 |_=>.s i
theorem acd {i:Nat} {j:Nat} {d:AV} (h:(get s.env i).cells[j]?=some d):at_ s (tN i (get s.env i) j)=some d:=by
 by_cases ha:∃cs,get s.env i=.agg cs
 ·obtain⟨cs,e⟩:=ha;rw[e] at h ⊢;simp only[tN];rw[Mg e];exact h
 ·have hn:kh (get s.env i):=fun cs e=>ha ⟨cs,e⟩
  have e2:(get s.env i).cells=[get s.env i]:=by
   generalize get s.env i=v at hn;cases v<;>first|rfl|exact absurd rfl (hn _)
  have e3:tN i (get s.env i) j=.s i:=by
   generalize get s.env i=v at hn;cases v<;>first|rfl|exact absurd rfl (hn _)
  rw[e2] at h;rw[e3];cases j with
  |zero=>simp at h; rw[<-h]; rfl
  |succ j=>simp at h
theorem eW.aip (h:eW X φ w N s Ha t) {i b off k:Nat} {cs as:List AV} (hb:aJ s.H b=some cs) (has:aJ Ha (N.β b)=some as) (hk:(get s.env i).cells.length=k) (qK:off+k<=cs.length)
  (hC:∀r x,at_ s r=some x->∀p∈aS x,de b off k p=false)
  (ad:fg φ w φ' w') (hh:cj X φ' w' (Ha.set (N.β b) (some (j9 as off (lT N i (get s.env i)).cells))))
  (he:∀j,get s'.env j=if j=i then .any else cT (iP i b off) (get s.env j)) (hH:s'.H=(gn (iP i b off) s.H).set b (some (j9 (dc (iP i b off) cs) off (cT (iP i b off) (get s.env i)).cells))) (ht:∀j,j≠i->t' j=t j) :
  ∃ N',N'.β=N.β/\eW X φ' w' N' s' (Ha.set (N.β b) (some (j9 as off (lT N i (get s.env i)).cells))) t':=by
 have hg:=vM i b off;have hL:=aat i b off;generalize hv:get s.env i=v at *;obtain⟨tc1,tc2⟩:=AB N i v;have hblt:=dL hb;have halt:=dL has
 have hasl:as.length=cs.length:=by
  obtain⟨as',g1,g2,_⟩:=h.box b cs hb;rw[has] at g1; cases g1; exact g2
 have II:(cT (iP i b off) v).cells=dc (iP i b off) v.cells:=KV hL v
 -- where a place of the new state comes from
 obtain⟨u,hu1,hu2⟩:∃u:Rt->Rt,(∀j,off<=j->j<off+k->u (.c b j)=tN i v (j-off))/\∀ q,de b off k q=false->u q=q:=
  ⟨fun q=>match q with
   |.c d j=>if d=b/\off<=j/\j<off+k then tN i v (j-off) else .c d j
   |q=>q,fun j h1 h2=>by simp[h1,h2],fun q hq=>by
     cases q with
     |s j=>rfl
     |sc j l=>rfl
     |c d j=>
       simp only[de,Vl,decide_eq_false_iff_not] at hq;have:¬(d=b/\off<=j/\j<off+k):=by omega
       simp[this]⟩
 have blkH:∀d,aJ s'.H d=if d=b then some (j9 (dc (iP i b off) cs) off (dc (iP i b off) v.cells)) else (aJ s.H d).map (dc (iP i b off)):=by
  intro d;rw[hH,dz,fF,II,fM];by_cases e:d=b
  ·subst e; simp[hblt]
  ·simp[e]
 have atq:∀q,bL i q=false->de b off k q=false->at_ s' q=(at_ s q).map (cT (iP i b off)):=by
  intro q h1 h2;cases q with
  |s j=>simp only[bL,decide_eq_false_iff_not] at h1; simp[at_,he,h1]
  |sc j l=>
    simp only[bL,decide_eq_false_iff_not] at h1;have:=jT hL s (.sc j l);simp only[at_,cB,dx] at this;simp only[at_,he,if_neg h1];exact this
  |c d j=>
    simp only[at_,blkH];by_cases e:d=b
    ·subst e;simp only[if_true,hb];simp only[de,decide_true,jb,Vl,decide_eq_false_iff_not] at h2;rw[nt (by rw[cN,cN,hk]; exact qK),cN,hk];by_cases c1:j<off
     ·rw[if_pos c1,eV]
     ·rw[if_neg c1,if_neg (by omega),eV]
    ·simp only[if_neg e];cases aJ s.H d with
     |none=>rfl
     |some ds=>simp[eV]
 have atb:∀j,off<=j->j<off+k->at_ s' (.c b j)=(v.cells[j-off]?).map (cT (iP i b off)):=by
  intro j h1 h2;simp only[at_,blkH,if_true];rw[nt (by rw[cN,cN,hk]; exact qK),cN,hk,if_neg (by omega),if_pos h2,eV]
 have ati:∀q,bL i q=true->az s' q=none:=by
  intro q hq;cases q with
  |s j=>simp only[bL,decide_eq_true_eq] at hq; subst hq; unfold az; simp[at_,he]
  |sc j l=>simp only[bL,decide_eq_true_eq] at hq; subst hq; unfold az; simp[at_,he]
  |c d j=>simp[bL] at hq
 have cellAt:∀j d,v.cells[j]?=some d->at_ s (tN i v j)=some d:=fun j d hd=>by
  have:=acd (s:=s) (i:=i) (j:=j) (d:=d) (by rw[hv]; exact hd)
  rwa [hv] at this
 have own:∀q k' xs,az s' q=some (k',xs)->az s (u q)=some (k',xs):=by
  intro q k' xs e
  have hqi:bL i q=false:=by
   cases e2:bL i q with
   |true=>rw[ati q e2] at e; cases e
   |false=>rfl
  have e':=cC.1 e;cases hq:de b off k q with
  |false=>
    rw[hu2 q hq];rw[atq q hqi hq] at e';cases ha:at_ s q with
    |none=>rw[ha] at e'; cases e'
    |some x=>
      rw[ha] at e';simp only[cD,af] at e';rw[zL hL] at e';subst e';exact cC.2 ha
  |true=>
    cases q with
    |s j=>simp[de] at hq
    |sc j l=>simp[de] at hq
    |c d j=>
      simp only[de,ae,decide_eq_true_eq] at hq;obtain⟨rfl,h1,h2⟩:=hq;rw[hu1 j h1 h2];rw[atb j h1 h2] at e';cases ha:v.cells[j-off]? with
      |none=>rw[ha] at e'; cases e'
      |some x=>
        rw[ha] at e';simp only[cD,af] at e';rw[zL hL] at e';subst e';exact cC.2 (cellAt _ _ ha)
 have alD:(∃ds,v=.agg ds)\/(kh v/\v.cells=[v]/\∀ j,tN i v j=.s i):=by
  by_cases ha:∃ds,v=.agg ds
  ·exact .inl ha
  ·have hn:kh v:=fun ds e=>ha ⟨ds,e⟩;refine .inr ⟨hn,?_,fun j=>?_⟩
   ·cases v<;>first|rfl|exact absurd rfl (hn _)
   ·cases v<;>first|rfl|exact absurd rfl (hn _)
 -- an owner that was, where it is now
 have own2:∀p,(az s p).isSome->de b off k p=false->az s' (gM i b off p)=az s p/\u (gM i b off p)=p:=by
  intro p hp hc;obtain⟨⟨k',xs⟩,e⟩:=aU.1 hp;have e':=cC.1 e;cases Ql:bL i p with
  |false=>
    have hm:gM i b off p=p:=by
     cases p with
     |s j=>simp only[bL,decide_eq_false_iff_not] at Ql; simp[gM,Ql]
     |sc j l=>simp only[bL,decide_eq_false_iff_not] at Ql; simp[gM,Ql]
     |c d j=>rfl
    rw[hm];refine⟨?_,hu2 p hc⟩;rw[<-iO hL s p];exact iN (by rw[atq p Ql hc,jT hL])
  |true=>
    cases p with
    |s j=>
      simp only[bL,decide_eq_true_eq] at Ql;subst Ql;simp only[at_,af] at e';rw[hv] at e';subst e';have hk1:k=1:=by rw[<-hk]; rfl
      subst hk1;have hm:gM j b off (.s j)=.c b off:=by simp[gM]
      rw[hm,hu1 off (aO _) (by omega)];refine⟨?_,rfl⟩;rw[e];exact cC.2 (by rw[atb off (aO _) (by omega)]; simp[AV.cells,cT])
    |sc j l=>
      simp only[bL,decide_eq_true_eq] at Ql;subst Ql;simp only[at_,hv] at e';split at e'
      case h_2=>cases e'
      rename_i ds;have hl:l<k:=by rw[<-hk]; exact ak e'
      have hm:gM j b off (.sc j l)=.c b (off+l):=by simp[gM]
      rw[hm,hu1 (off+l) (by omega) (by omega)];refine⟨?_,by simp[tN]⟩;rw[e];exact cC.2 (by rw[atb (off+l) (by omega) (by omega)]; simp[AV.cells,e',cT])
    |c d j=>simp[bL] at Ql
 have back:∀q,(az s' q).isSome->gM i b off (u q)=q:=by
  intro q hq
  have hqi:bL i q=false:=by
   cases e2:bL i q with
   |true=>rw[ati q e2] at hq; cases hq
   |false=>rfl
  cases hc:de b off k q with
  |false=>
    rw[hu2 q hc];cases q with
    |s j=>simp only[bL,decide_eq_false_iff_not] at hqi; simp[gM,hqi]
    |sc j l=>simp only[bL,decide_eq_false_iff_not] at hqi; simp[gM,hqi]
    |c d j=>rfl
  |true=>
    cases q with
    |s j=>simp[de] at hc
    |sc j l=>simp[de] at hc
    |c d j=>
      simp only[de,ae,decide_eq_true_eq] at hc;obtain⟨rfl,h1,h2⟩:=hc;rw[hu1 j h1 h2];rcases alD with⟨ds,rfl⟩|⟨_,Va,hp1⟩
      ·simp only[tN,gM,if_true];rw[show off+(j-off)=j by omega]
      ·rw[hp1];have:k=1:=by rw[<-hk,Va]; rfl
       simp only[gM,if_true];rw[show off=j by omega]
 have hlen:s'.H.length=s.H.length:=by rw[hH,bG,fM]
 obtain⟨N',eX,hN⟩:∃N':Names,N'.β=N.β/\∀ q,N'.ν q=N.ν (u q):=⟨⟨N.β,fun q=>N.ν (u q)⟩,rfl,fun _=>rfl⟩;have lF:∀p,(az s p).isSome->de b off k p=false->N'.ν (gM i b off p)=N.ν p:=fun p hp hc=>by rw[hN,(own2 p hp hc).2]
 have bor1:∀{r x},at_ s r=some x->(∀p∈aS x,N'.ν (gM i b off p)=N.ν p)/\cP (az s') s'.H.length (cT (iP i b off) x):=by
  intro r x hx;refine⟨fun p hp=>lF p (h.dP hx p hp) (hC r x hx p hp),?_⟩;rw[hlen];exact Ss hg x (fun p hp=>(own2 p (h.dP hx p hp) (hC r x hx p hp)).1) (h.D8 hx)
 have so:∀{q},(az s' q).isSome->(az s (u q)).isSome:=by
  intro q hq;obtain⟨⟨k',xs⟩,e⟩:=aU.1 hq;rw[own q k' xs e]; rfl
 have sb:∀{d},(aJ s'.H d).isSome->(aJ s.H d).isSome:=by
  intro d hd;rw[blkH] at hd;by_cases e:d=b
  ·subst e; rw[hb]; rfl
  ·rw[if_neg e] at hd;cases e2:aJ s.H d with
   |none=>rw[e2] at hd; cases hd
   |some _=>rfl
 refine⟨N',eX,⟨fun j=>?_,fun j=>?_,hh,fun q k' xs e=>?_,fun d ds e=>?_,fun p q n e1 e2 e3 e4=>?_,fun d q e1 e2 e3=>?_,fun d e e1 e2 e3=>?_⟩⟩
 ·rw[he];by_cases Dh:j=i
  ·rw[if_pos Dh]; exact .any _ _
  ·rw[if_neg Dh,ht j Dh];rw[Pz (N:=N) (i:=j) eX hg (by rw[hN,hu2 _ rfl]) (fun l=>by rw[hN,hu2 _ rfl]) (bor1 (r:=.s j) rfl).1];exact ad.rep (h.env j)
 ·rw[he];by_cases Dh:j=i
  ·rw[if_pos Dh]; trivial
  ·rw[if_neg Dh]; exact (bor1 (r:=.s j) rfl).2
 ·have e2:=own q k' xs e;rw[hN];refine (h.own _ k' xs e2).same fun n hn=>?_;rw[dz,if_neg];rintro⟨e3,_⟩;exact h.bx b (u q) (by rw[hb]; rfl) (by rw[e2]; rfl) (by rw[hn,e3])
 ·rw[blkH] at e;by_cases hd:d=b
  ·subst hd;rw[if_pos rfl] at e;cases e;refine⟨j9 as off (lT N i v).cells,by rw[eX,dz,if_pos ⟨rfl,halt⟩],?_,fun j x hx=>?_⟩
   ·rw[gK (by rw[tc1,hk]; omega),gK (by rw[cN,cN,hk]; omega),cN,hasl]
   ·rw[nt (by rw[cN,cN,hk]; exact qK),cN,hk] at hx
    have outside:(dc (iP i d off) cs)[j]?=some x->de d off k (.c d j)=false->(∀hj:True,(j9 as off (lT N i v).cells)[j]?=as[j]?)->cP (az s') s'.H.length x/\∃ a',(j9 as off (lT N i v).cells)[j]?=some a'/\Le (jx N' (.c d j) x) a':=by
     intro hx hc hov;rw[eV] at hx;cases Lq:cs[j]? with
     |none=>rw[Lq] at hx; cases hx
     |some x0=>
       rw[Lq] at hx;simp at hx;subst hx;obtain⟨as2,g1,g2,g3⟩:=h.box d cs hb;rw[has] at g1; cases g1;obtain⟨_,a',a1,a2⟩:=g3 j x0 Lq;have wU:=bor1 (r:=.c d j) (x:=x0) (by rw[Af hb]; exact Lq);refine⟨wU.2,a',by rw[hov trivial]; exact a1,?_⟩;rw[B8 (N:=N) (r:=.c d j) eX hg (fun _ _ _=>by rw[hN,hu2 _ hc]) wU.1];exact a2
    split at hx
    ·rename_i c1;exact outside hx (by simp[de]; omega) (fun _=>by rw[nt (by rw[tc1,hk]; omega),if_pos c1])
    ·split at hx
     ·rename_i c1 c2;rw[eV] at hx;cases Lq:v.cells[j-off]? with
      |none=>rw[Lq] at hx; cases hx
      |some x0=>
        rw[Lq] at hx;simp at hx;subst hx;have wU:=bor1 (cellAt _ _ Lq);refine⟨wU.2,jx N (tN i v (j-off)) x0,?_,?_⟩
        ·rw[nt (by rw[tc1,hk]; omega),if_neg c1,if_pos (by rw[tc1,hk]; exact c2),tc2 _ _ Lq];cases v<;>rfl
        ·rw[B8 (N:=N) (r:=tN i v (j-off)) eX hg (fun _ _ _=>by rw[hN,hu1 j (by omega) c2]) wU.1];exact Le.refl _
     ·rename_i c1 c2;exact outside hx (by simp[de]; omega) (fun _=>by rw[nt (by rw[tc1,hk]; omega),if_neg c1,if_neg (by rw[tc1,hk]; exact c2)])
  ·rw[if_neg hd] at e;cases mO:aJ s.H d with
   |none=>rw[mO] at e; cases e
   |some ds0=>
     rw[mO] at e;simp at e;subst e;obtain⟨as2,g1,g2,g3⟩:=h.box d ds0 mO;refine⟨as2,?_,by rw[cN]; exact g2,fun j x hx=>?_⟩
     ·rw[eX,dz,if_neg]
      ·exact g1
      ·rintro⟨e3,_⟩;exact hd (h.bi d b (by rw[mO]; rfl) (by rw[hb]; rfl) e3)
     ·rw[eV] at hx;cases Lq:ds0[j]? with
      |none=>rw[Lq] at hx; cases hx
      |some x0=>
        rw[Lq] at hx;simp at hx;subst hx;obtain⟨_,a',a1,a2⟩:=g3 j x0 Lq;have wU:=bor1 (r:=.c d j) (x:=x0) (by rw[Af mO]; exact Lq);refine⟨wU.2,a',a1,?_⟩;rw[B8 (N:=N) (r:=.c d j) eX hg (fun _ _ _=>by rw[hN,hu2 _ (by simp[de,hd])]) wU.1];exact a2
 ·rw[hN] at e3 e4;have:=h.inj _ _ n (so e1) (so e2) e3 e4;rw[<-back p e1,this,back q e2]
 ·rw[hN,eX] at e3;exact h.bx d _ (sb e1) (so e2) e3
 ·rw[eX] at e3;exact h.bi d e (sb e1) (sb e2) e3
end
end Go.Bm

/- Stores. -/
namespace Go.Bm
open Go.Am
section
variable {P:Program} {X:Nat->Prop} {φ φ':dj} {w w':World} {N N':Names} {s s' s1:St} {Ha Ha':Heap} {t t':Nat->Value} {B:Nat->Nat} {base:Nat} {v va:AV} {v':Value} {c:eI} {o:Oper} {a:Act} {kd:Kd}
theorem ahM {op:Op} {k:Nat} {x y:E} (h:cX P op (.st k x y)=true):∃ty xo yo,op=.store ty xo yo/\pF P ty k=true/\cY xo x=true/\cY yo y=true:=by
 unfold cX at h;split at h<;>simp_all
 exact⟨_,_,_,⟨rfl,rfl,rfl⟩,h.1.1,h.1.2,h.2⟩
theorem Ns (h:eW X φ w N s Ha t) {i:Nat} (hl:bC (get s.env i).cells=true):bC (lT N i (get s.env i)).cells=true:=by
 obtain⟨h1,h2⟩:=AB N i (get s.env i);refine xk fun d hd=>?_;obtain⟨j,hj⟩:=bE hd;obtain⟨x,hx⟩:=bq (l:=(get s.env i).cells) (i:=j) (by have:=ak hj; omega);rw[h2 j x hx] at hj;cases hj;have hxl:=Ak hl x (bn hx);have dm:=IC (zD (h.Iz i)) x (bn hx);by_cases ho:∃k xs,x=.own k xs
 ·obtain⟨k,xs,rfl⟩:=ho;simp only[jx,rU];split<;>rfl
 ·have:=P8 h hxl dm;cases x<;>first|exact this|exact absurd ⟨_,_,rfl⟩ ho
theorem HR:∀{ds:List AV},bT ds=false->∀x∈ds,∀k xs,x≠.own k xs
 |[],_,x,hx=>by simp at hx
 |y::r,h,x,hx=>by
   intro k xs e;subst e;obtain⟨j,hj⟩:=bE hx;exact CZ h j k xs hj
theorem Jg {b off k:Nat} {cs:List AV} (hb:aJ s.H b=some cs) (ho:bT ((cs.drop off).take k)=false) {p:Rt} (hp:(az s p).isSome):de b off k p=false:=by
 cases p with
 |s j=>rfl
 |sc j l=>rfl
 |c d j=>
   cases e:de b off k (.c d j) with
   |false=>rfl
   |true=>
     simp only[de,ae,decide_eq_true_eq] at e;obtain⟨rfl,h1,h2⟩:=e;obtain⟨⟨k',xs⟩,e2⟩:=aU.1 hp;have e3:=cC.1 e2;rw[Af hb] at e3;refine absurd rfl (HR ho (.own k' xs) ?_ k' xs);refine bn (i:=j-off) ?_;rw[bP,if_pos (by omega),bf,show off+(j-off)=j by omega];exact e3
theorem Sr (hm:P.follows .mixedOrders=true) (h:SB X φ w B base s (tm a)) (hg:Am.dX (hU c) X φ w) {k b off:Nat} {x y:E} {f:Fq} (hk:cX P o.op (mV (.st k x y))=true) (yx:bp c s.env x=.ptr b off) (hs:BD s b off k (bp c s.env y)=some (s',f)):nh P X φ w B base s' .undef o a:=by
 obtain⟨N,Ha,h,hbB,hbl⟩:=h;obtain⟨ty,xo,yo,fh,oV,c1,c2⟩:=ahM hk;have hx:=cJ (c:=c) (cA:=hU c) h rfl c1;have hy:=cJ (c:=c) (cA:=hU c) h rfl c2;have he:qR X φ w (Dg N s.env) a.tmps:=fun i=>by rw[oY]; exact h.env i
 have rx:=bZ (a:=a) he hg c1;have ry:=bZ (a:=a) he hg c2;rw[hx.ev,yx] at rx;rw[hy.evQ] at ry;simp only[gL,cS] at rx;have hpo:dU X φ w N.β s.H.length s (bp c s.env y) (tm a) (a.eval yo):=dU.quiet h ⟨fun _ _=>rfl,aO _⟩ hy.ok hy.EO ry;generalize bp c s.env y=v at *;unfold BD at hs;split at hs
 case h_2=>cases hs
 rename_i cs dI;split at hs
 case isFalse=>cases hs
 rename_i aeU;obtain⟨q1,q2,q3⟩:=aeU;have hblt:=dL dI;split at hs
 ·split at hs
  case h_2=>cases hs
  rename_i M4;split at hs
  case h_2=>cases hs
  rename_i s2 hh;simp at hs;obtain⟨rfl,_⟩:=hs;obtain⟨lV,MB,ad1⟩:=SB.wx b k off (hpo.put fw M4);generalize wx b off k ⟨put s.env fw v,s.H⟩=s1 at hh MB;obtain⟨N1,Ve,fY,BV,hl1⟩:=MB;have hL:=aat fw b off;unfold nu at hh;split at hh
  case h_2=>cases hh
  rename_i cs2 TX;split at hh
  case isFalse=>cases hh
  rename_i IJ;obtain⟨r1,r2,r3,r4⟩:=IJ;simp at hh;subst hh;simp only[cB,fF,dx] at TX r1 r2 r3 r4 ⊢;cases hcs1:aJ s1.H b with
  |none=>rw[hcs1] at TX; cases TX
  |some cs1=>
    rw[hcs1] at TX;simp at TX;subst TX;rw[KV hL] at r1 r4;rw[cN] at r1 r2
    have A3:bC (get s1.env fw).cells=true:=by
     refine xk fun d hd=>?_;obtain⟨j,hj⟩:=bE hd;have:=Ak r4 (cT (iP fw b off) d) (bn (i:=j) (by rw[eV,hj]; rfl));cases d<;>first|rfl|exact this
    have iv:bT ((cs1.drop off).take k)=false:=by
     have key:∀{l:List AV},bT (dc (iP fw b off) l)=false->bT l=false:=by
      intro l
      induction l with
      |nil=>intro _; rfl
      |cons z r ih=>
        intro h;simp only[dc] at h;cases z<;>simp[cT,iP,bT] at h ⊢<;>exact ih h
     apply key
     have:(dc (iP fw b off) cs1).drop off=dc (iP fw b off) (cs1.drop off):=by
      apply dN; intro j; rw[bf,eV,eV,bf]
     rw[this] at r3
     have h2:(dc (iP fw b off) (cs1.drop off)).take k=dc (iP fw b off) ((cs1.drop off).take k):=by
      apply dN; intro j; rw[bP,eV,eV,bP]; split<;>rfl
     rw[h2] at r3;exact r3
    obtain⟨as,g1,g2,g3⟩:=fY.box b cs1 hcs1;have hβ1:N1.β b=N.β b:=BV b hblt;refine nh.ghost ad1 ?_;have dm:=adM (P:=P) fh fY.heap g1 oV (by rw[hβ1]; exact ad1.rep rx) (by have:=fY.env fw; simp only[if_true] at this; exact this) (by rw[(AB N1 fw _).1]; exact r1) (by omega) (Ns fY A3);refine nh.of dm fun v' w' φ' r hh ad=>?_
    obtain⟨N',e1,PC⟩:=fY.aip (i:=fw) (b:=b) (off:=off) (k:=k) (s':=⟨put (lZ (iP fw b off) s1.env) fw .any,(gn (iP fw b off) s1.H).set b (some (j9 (dc (iP fw b off) cs1) off (cT (iP fw b off) (get s1.env fw)).cells))⟩) (t':=tm a)
     hcs1 g1 r1 r2 (fun rr z hz p hp=>Jg hcs1 iv (fY.dP hz p hp)) ad hh (fun j=>by simp only[bN,dx]) rfl (fun j hj=>by simp[hj])
    refine dU.quiet PC ⟨fun d hd=>?_,?_⟩ trivial trivial r
    ·rw[e1,BV d (by omega)]; exact hbB d hd
    ·simp only[bG,fM]; omega
 ·rename_i aiW;simp at hs;obtain⟨rfl,_⟩:=hs;obtain⟨i,hi,_⟩:=OE s.env [];obtain⟨N1,Ve,fY,BV,hl1⟩:=hpo.put i hi;have hio:bV (get s.env i)=false:=by rw[hi]; rfl
  obtain⟨as,g1,g2,g3⟩:=fY.box b cs dI;have hβ1:N1.β b=N.β b:=BV b hblt;have gi:get (put s.env i v) i=v:=by rw[bN,if_pos rfl]
  have A3:bC (get (put s.env i v) i).cells=true:=by rw[gi]; exact q3
  have SH:∀{p},(az s p).isSome->gM i b off p=p:=by
   intro p hp;have:=xg hio hp;cases p with
   |s j=>simp only[bL,decide_eq_false_iff_not] at this; simp[gM,this]
   |sc j l=>simp only[bL,decide_eq_false_iff_not] at this; simp[gM,this]
   |c d j=>rfl
  have dm:=adM (P:=P) fh fY.heap g1 oV (by rw[hβ1]; exact rx) (by have:=fY.env i; simp only[if_true] at this; exact this) (by rw[(AB N1 i _).1,gi]; exact q1) (by omega) (Ns fY A3);refine nh.of dm fun v' w' φ' r hh ad=>?_
  have hnoC:∀r z,at_ ⟨put s.env i v,s.H⟩ r=some z->∀p∈aS z,de b off k p=false:=by
   intro r z hz p hp;simp only[ae,not_and,Bool.not_eq_true] at aiW;cases hod:bT ((cs.drop off).take k) with
   |false=>exact Jg (s:=⟨put s.env i v,s.H⟩) dI hod (fY.dP hz p hp)
   |true=>
     have hn:=aiW hod;simp only[Mn,fa] at hn;cases r with
     |s j=>
       simp only[at_,bN,af] at hz;subst hz;split at hp
       ·exact lK hn.1 p hp
       ·exact tT hn.2.1 j p hp
     |sc j l=>
       simp only[at_,bN] at hz;split at hz
       ·rename_i ds qe;split at qe
        ·subst qe;exact lK hn.1 p (by simp only[aS]; exact mX hz hp)
        ·exact tT hn.2.1 j p (by rw[qe]; simp only[aS]; exact mX hz hp)
       ·cases hz
     |c d l=>
       simp only[at_] at hz;split at hz
       ·rename_i ds qe;exact xh hn.2.2 d ds qe p (mX hz hp)
       ·cases hz
  obtain⟨N',e1,PC⟩:=fY.aip (i:=i) (b:=b) (off:=off) (k:=k) (s':=⟨s.env,s.H.set b (some (j9 cs off v.cells))⟩) (t':=tm a) dI g1 (by rw[gi]; exact q1) q2 hnoC ad hh
   (fun j=>by
    simp only[bN];by_cases hj:j=i
    ·rw[if_pos hj,hj]; exact hi
    ·rw[if_neg hj,if_neg hj,uw (vM i b off) _ (fun p hp=>SH (h.dP (r:=.s j) rfl p hp))])
   (by
    simp only[gi]
    rw[IE (vM i b off) s.H (fun d ds hd p hp=>SH (by
     obtain⟨j,z,h1,h2⟩:=QF hp;exact h.dP (r:=.c d j) (by rw[Af hd]; exact h1) p h2)),
     tB (vM i b off) cs (fun p hp=>SH (by
     obtain⟨j,z,h1,h2⟩:=QF hp;exact h.dP (r:=.c b j) (by rw[Af dI]; exact h1) p h2)),
     uw (vM i b off) v (fun p hp=>SH (Ft v hpo.ok p hp))])
   (fun j hj=>by simp[hj])
  refine dU.quiet PC ⟨fun d hd=>?_,?_⟩ trivial trivial r
  ·rw[e1,BV d (by omega)]; exact hbB d hd
  ·simp only[bG]; omega
end
end Go.Bm

/- Maps, whose entries are a box of plain values. -/
namespace Go.Bm
open Go.Am
theorem fR:∀{cs:List AV},dq cs=true->∀(i:Nat) (c:AV),cs[i]?=some c->pl c=true
 |x::r,h,0,c,hc=>by simp only[dq,ae] at h; simp at hc; subst hc; exact h.1
 |x::r,h,i+1,c,hc=>by simp only[dq,ae] at h; exact fR h.2 i c (by simpa using hc)
theorem tr {x:AV} (h:pl x=true):bV x=false:=by
 cases x<;>first|rfl|(simp[pl] at h; done)|skip
 rename_i cs;simp only[pl] at h;simp only[bV]
 induction cs with
 |nil=>rfl
 |cons y r ih=>
   simp only[dq,ae] at h;have h1:=h.1;cases y<;>first|exact ih h.2|(simp[pl] at h1; done)
theorem ZL:∀{xs ys:List AV},dq xs=true->dq ys=true->dq (xs++ys)=true
 |[],_,_,h=>h
 |x::r,ys,h,k=>by simp only[List.cons_append,dq,ae] at h ⊢; exact⟨h.1,ZL h.2 k⟩
theorem ZK:∀{xs:List AV} {i:Nat} {y:AV},dq xs=true->pl y=true->dq (xs.set i y)=true
 |[],_,_,_,_=>rfl
 |x::r,0,y,h,k=>by simp only[List.set_cons_zero,dq,ae] at h ⊢; exact⟨k,h.2⟩
 |x::r,i+1,y,h,k=>by simp only[List.set_cons_succ,dq,ae] at h ⊢; exact⟨h.1,ZK h.2 k⟩
theorem _root_.Go.Am.bO.yR {R:Addr->Value->Prop} {φ:dj} {k b off len:Nat} {v:Value} (r:bO R φ (.sl k b off len) v) {g sz:Nat} (e:φ[b]?=some (some (g,sz))):0<sz:=by
 cases r with
 |sl _ _ _ _ _ a cap hb hc h=>have:=(h g sz e).2; omega
theorem _root_.Go.Am.bO.agu {R:Addr->Value->Prop} {φ:dj} {b off:Nat} {v:Value} (r:bO R φ (.ptr b off) v) {g sz:Nat} (e:φ[b]?=some (some (g,sz))):0<sz:=by
 cases r with
 |ptr _ _ _ a hb h=>exact (h g sz e).2
theorem less {X:Nat->Prop} {φ:dj} {w:World} {Ha:Heap} (h:cj X φ w Ha) {n:Nat} {cs cs':List AV} (hb:aJ Ha n=some cs) (hl:cs'.length<=cs.length) (hs:(∀g sz,φ[n]?=some (some (g,sz))->0<sz)\/cs'.length=cs.length) (hc:∀(i:Nat) (d:AV),cs'[i]?=some d->∃a,cs[i]?=some a/\Le d a):cj X φ w (Ha.set n (some cs')):=by
 refine⟨by simp[h.len],h.Gg,fun b ds mO=>?_,fun b mO=>?_,h.inj⟩
 ·rw[aR] at mO;split at mO
  ·rename_i e;subst e;split at mO
   ·simp at mO;subst mO;obtain⟨g,sz,arr,e,g1,g2,g3,g4,g5,g6⟩:=h.at hb;refine⟨g,sz,arr,e,g1,g2,g3,⟨by omega,fun z=>hs.elim (fun hs=>absurd (hs g sz g1) (by omega)) (fun hs=>hs.trans (g4.2 z))⟩,g5,fun i d hd=>?_⟩;obtain⟨a,ha,hle⟩:=hc i d hd;obtain⟨u,u1,u2⟩:=g6 i a ha;exact⟨u,u1,hle _ _ _ u2⟩
   ·cases mO
  ·exact h.live b ds mO
 ·rw[aR] at mO;split at mO
  ·split at mO<;>simp at mO
  ·exact h.dead b mO
theorem Fs {e:Env} {H:Heap} {d j:Nat} (hp:∀cs,aJ H d=some cs->dq cs=true):az ⟨e,H⟩ (.c d j)=none:=by
 cases ho:az ⟨e,H⟩ (.c d j) with
 |none=>rfl
 |some y=>
   obtain⟨k,xs⟩:=y;have h1:=cC.1 ho;simp only[at_] at h1;split at h1
   ·rename_i ds hd;have:=fR (hp ds hd) j _ h1;simp[pl] at this
   ·cases h1
theorem sT (N:Names) (p:Rt) {z:AV} (hz:pl z=true):jx N p z=z:=by
 cases z<;>first|exact l9 N _ hz|(simp[pl] at hz; done)
theorem AD (N:Names) {z:AV} (hz:pl z=true):gL N z=z:=by
 cases z<;>first|exact l9 N _ hz|(simp[pl] at hz; done)
theorem eW.PD {X:Nat->Prop} {φ lV:dj} {w w1:World} {N:Names} {s:St} {Ha Ha':Heap} {t:Nat->Value} (h:eW X φ w N s Ha t) {b:Nat} {cs cs':List AV} (hb:aJ s.H b=some cs) (hpc:dq cs=true) (Wy:dq cs'=true) (ad:fg φ w lV w1) (hh:cj X lV w1 Ha') (Ie:aJ Ha' (N.β b)=some cs') (FR:∀m,m≠N.β b->aJ Ha' m=aJ Ha m):eW X lV w1 N ⟨s.env,s.H.set b (some cs')⟩ Ha' t:=by
 have hoa:∀p,az ⟨s.env,s.H.set b (some cs')⟩ p=az s p:=by
  intro p;cases p with
  |s i=>rfl
  |sc i j=>rfl
  |c d j=>
    by_cases e:d=b
    ·subst e;rw[Fs (e:=s.env) (H:=s.H.set d (some cs')) (d:=d) (j:=j) fun ds hd=>by rw[dz,if_pos ⟨rfl,dL hb⟩] at hd; cases hd; exact Wy];exact (Fs (e:=s.env) (H:=s.H) (d:=d) (j:=j) fun ds hd=>by rw[hb] at hd; cases hd; exact hpc).symm
    ·simp only[az,at_];rw[dz,if_neg (fun h=>e h.1)]
 have hfe:az ⟨s.env,s.H.set b (some cs')⟩=az s:=funext hoa;have hlen:(s.H.set b (some cs')).length=s.H.length:=by simp
 have hblk:∀d ds,aJ (s.H.set b (some cs')) d=some ds->(d=b/\ds=cs')\/(d≠b/\aJ s.H d=some ds):=by
  intro d ds e;by_cases e2:d=b
  ·subst e2;rw[dz,if_pos ⟨rfl,dL hb⟩] at e;cases e;exact .inl ⟨rfl,rfl⟩
  ·rw[dz,if_neg (fun h=>e2 h.1)] at e;exact .inr ⟨e2,e⟩
 have aeM:∀d,(aJ (s.H.set b (some cs')) d).isSome->(aJ s.H d).isSome:=by
  intro d e;obtain⟨ds,hd⟩:=aU.1 e;rcases hblk d ds hd with⟨rfl,_⟩|⟨_,h2⟩
  ·rw[hb]; rfl
  ·rw[h2]; rfl
 have M3:(aJ s.H b).isSome:=by rw[hb]; rfl
 refine⟨fun i=>ad.rep (h.env i),fun i=>?_,hh,fun p k xs e=>?_,fun d ds e=>?_,fun p q n e1 e2=>?_,fun d p e1 e2=>?_,fun d e0 e1 e2 e3=>?_⟩
 ·rw[hfe];show cP _ (s.H.set b (some cs')).length _;rw[hlen]; exact h.Iz i
 ·rw[hoa] at e;have ho:=h.own p k xs e;cases hn:N.ν p with
  |none=>rw[hn] at ho; exact ho
  |some m=>
    rw[hn] at ho;obtain⟨ds,d1,d2⟩:=ho;have qd:m≠N.β b:=fun e2=>h.bx b p M3 (by rw[e]; rfl) (by rw[hn,e2]);exact⟨ds,by rw[FR _ qd]; exact d1,d2⟩
 ·rcases hblk d ds e with⟨rfl,rfl⟩|⟨hd,HO⟩
  ·exact⟨_,Ie,rfl,fun j d hd=>⟨vK _ (fR Wy j d hd),d,hd,by rw[sT _ _ (fR Wy j d hd)]; exact Le.refl _⟩⟩
  ·obtain⟨as2,x1,x2,x3⟩:=h.box d ds HO;have qd:N.β d≠N.β b:=fun h2=>hd (h.bi d b (by rw[HO]; rfl) M3 h2);refine⟨as2,by rw[FR _ qd]; exact x1,x2,fun j d' hd'=>?_⟩;obtain⟨y1,y2⟩:=x3 j d' hd';refine⟨?_,y2⟩;rw[hfe];show cP _ (s.H.set b (some cs')).length _;rw[hlen]; exact y1
 ·rw[hoa] at e1 e2; exact h.inj p q n e1 e2
 ·rw[hoa] at e2; exact h.bx d p (aeM d e1) e2
 ·exact h.bi d e0 (aeM d e1) (aeM e0 e2) e3

section
variable {P:Program} {X:Nat->Prop} {φ φ':dj} {w w':World} {N N':Names} {s s' s1:St} {Ha Ha':Heap} {t t':Nat->Value} {B:Nat->Nat} {base:Nat} {v va:AV} {v':Value} {c:eI} {o:Oper} {a:Act} {kd:Kd} {call:Nat->List AV->Heap->Option (AV × Heap)}
theorem eW.ZW (h:eW X φ w N s Ha t) {p:Rt} {k n:Nat} {xs:List AV} (hp:az s p=some (k,xs)) (hn:N.ν p=some n) {g sz:Nat} (e:φ[n]?=some (some (g,sz))):0<sz:=by
 have ha:=cC.1 hp;cases p with
 |s i=>
   simp only[at_,af] at ha;have r:=h.env i;rw[ha] at r;simp only[lT,jx,rU,hn] at r;exact r.yR e
 |sc i j=>
   simp only[at_] at ha;split at ha
   case h_2=>cases ha
   rename_i cs dI;have r:=h.env i;rw[dI] at r;simp only[lT] at r;generalize t i=v at r;cases r with
   |agg _ _ vs hl hh=>
     obtain⟨u,hu⟩:=bX (l:=vs) (i:=j) (by have:=ak ha; rw[gH] at hl; omega);have r2:=hh j _ u (by rw[gb,ha]; rfl) hu;simp only[fX,jx,rU,hn] at r2;exact r2.yR e
 |c b j=>
   simp only[at_] at ha;split at ha
   case h_2=>cases ha
   rename_i cs dI;obtain⟨as,a1,a2,a3⟩:=h.box b cs dI;obtain⟨_,a',b1,b2⟩:=a3 j _ ha;obtain⟨_,_,_,_,_,_,_,_,_,g6⟩:=h.heap.at a1;obtain⟨u,_,u2⟩:=g6 j a' b1;have r2:=b2 _ _ _ u2;simp only[jx,rU,hn] at r2;exact r2.yR e
theorem eW.aiP (h:eW X φ w N s Ha t) {b:Nat} {es:List AV} (hb:aJ s.H b=some es) (hp:dq es=true):∃Ve,aJ Ve (N.β b)=some es/\eW X φ w N s Ve t:=by
 obtain⟨as,b1,b2,b3⟩:=h.box b es hb
 have hh:cj X φ w (Ha.set (N.β b) (some es)):=less h.heap b1 (by omega) (.inr (by omega)) fun i d hd=>by
  obtain⟨_,a',a1,a2⟩:=b3 i d hd;rw[sT N _ (fR hp i d hd)] at a2;exact⟨a',a1,a2⟩
 have Ie:aJ (Ha.set (N.β b) (some es)) (N.β b)=some es:=by rw[dz,if_pos ⟨rfl,dL b1⟩]
 have h2:=h.PD hb hp hp (.refl φ w) hh Ie fun m hm=>by rw[dz,if_neg (fun e=>hm e.1)]
 have he:s.H.set b (some es)=s.H:=by
  apply dN;intro i;rw[aR];split
  ·rename_i e; subst e; rw[if_pos (dL hb)]; exact (tR hb).symm
  ·rfl
 rw[he] at h2;exact⟨_,Ie,h2⟩
theorem SP {K:Kt} {x:AV}:∀{cs:List AV} {i:Nat} {p:Nat × AV},iQ K x cs i=some (some p)->dq cs=true->pl p.2=true
 |[],_,_,h,_=>by simp[iQ] at h
 |c::cs,i,p,h,hp=>by
   obtain⟨k',v,rfl,h2⟩:=CN h;simp only[dq,pl,ae] at hp;rcases h2 with⟨_,h3⟩|⟨_,h3⟩
   ·simp only[af] at h3; subst h3; exact hp.1.2.1
   ·exact SP h3 hp.2
theorem aej {K:Kt} {x:AV} {cs:List AV} {ok:Bool} {z:AV} {r:Option (Nat × AV)} (hf:iQ K x cs 0=some r) (hp:dq cs=true) (hz:pl z=true):pl (mgv ok z r)=true:=by
 cases r with
 |none=>cases ok<;>simp[mgv,pl,dq,hz]
 |some p=>
   have:=SP hf hp;cases ok<;>simp[mgv,pl,dq,this]
theorem aek {c:eI} {call:Nat->List AV->Heap->Option (AV × Heap)} {s s1:St} {K:Kt} {ok:Bool} {z v:AV} {x k:E} {f:Fq} (h:fk c call s (.Bs K ok z x k)=some (v,s1,f)) :
  ∃ b es r,mapOf (bp c s.env x)=some b/\aJ s.H b=some es/\(dq es=true/\(pl (bp c s.env k)=true/\AW K (bp c s.env k) (bp c s.env k)=some true))/\iQ K (bp c s.env k) es 0=some r/\pl z=true/\v=mgv ok z r/\s1=s/\f=.rd [.c b 1]:=by
 simp only[fk] at h;split at h
 case h_2=>cases h
 rename_i b e1;split at h
 case h_2=>cases h
 rename_i es e2;split at h
 case isFalse=>cases h
 rename_i hp;split at h
 case h_2=>cases h
 rename_i r e3;split at h
 case isFalse=>cases h
 rename_i hz;simp only[af,aC] at h;obtain⟨rfl,rfl,rfl⟩:=h;exact⟨b,es,r,e1,e2,hp,e3,hz,rfl,rfl,rfl⟩
theorem aec {c:eI} {call:Nat->List AV->Heap->Option (AV × Heap)} {s s1:St} {K:Kt} {v:AV} {x k y:E} {f:Fq} (h:fk c call s (.CH K x k y)=some (v,s1,f)) :
  ∃ b es r,mapOf (bp c s.env x)=some b/\aJ s.H b=some es/\(dq es=true/\((pl (bp c s.env k)=true/\pl (bp c s.env y)=true)/\AW K (bp c s.env k) (bp c s.env k)=some true))/\iQ K (bp c s.env k) es 0=some r/\v=.undef/\s1=⟨s.env,s.H.set b (some (CJ (bp c s.env k) (bp c s.env y) es r))⟩/\f=.all:=by
 simp only[fk] at h;split at h
 case h_2=>cases h
 rename_i b e1;split at h
 case h_2=>cases h
 rename_i es e2;split at h
 case isFalse=>cases h
 rename_i hp;split at h
 case h_2=>cases h
 rename_i r e3;simp only[af,aC] at h;obtain⟨rfl,rfl,rfl⟩:=h;exact⟨b,es,r,e1,e2,hp,e3,rfl,rfl,rfl⟩
theorem afs {op:Op} {K:Kt} {ok:Bool} {z:AV} {x k:E} (h:cX P op (.Bs K ok z x k)=true):(∃y,cY y x=true)/\∃ y,cY y k=true:=by
 cases op<;>simp[cX] at h
 exact⟨⟨_,h.1.2⟩,⟨_,h.2⟩⟩
theorem afr {op:Op} {K:Kt} {x k y:E} (h:cX P op (.CH K x k y)=true):(∃z,cY z x=true)/\(∃z,cY z k=true)/\∃ z,cY z y=true:=by
 cases op<;>simp[cX] at h
 exact⟨⟨_,h.1.1.2⟩,⟨_,h.1.2⟩,⟨_,h.2⟩⟩
theorem KT (b:Nat):mapOf (pQ b)=some b:=rfl
theorem aci (N:Names) (b:Nat):gL N (pQ b)=pQ (N.β b):=rfl
theorem adQ (hm:P.follows .mixedOrders=true) (h:SB X φ w B base s (tm a)) (hg:Am.dX (hU c) X φ w) (hk:cX P o.op (mV .FA)=true):nh P X φ w B base ⟨s.env,s.H++[some []]⟩ (pQ s.H.length) o a:=by
 obtain⟨N,Ha,h,hb,hl⟩:=h;refine nh.of (mZ hm h hg hk (by simp only[mV,fO]; rfl)) fun v' w' φ' r hh ad=>?_;obtain⟨N',n1,n2,h'⟩:=h.PZ (zs:=[]) ad hh trivial (fun j k xs hj=>by simp at hj) rfl;refine dU.quiet h' ⟨fun b bF=>by rw[n1 b (by omega)]; exact hb b bF,by simp; omega⟩ ⟨trivial,⟨by simp[cP],trivial⟩,fun _=>⟨rfl,_,rfl⟩⟩ trivial ?_;simp only[yE,cS,mR,pQ,n2];exact r
theorem adT (hm:P.follows .mixedOrders=true) (h:SB X φ w B base s (tm a)) (hg:Am.dX (hU c) X φ w) {K:Kt} {ok:Bool} {z:AV} {x k:E} (hk:cX P o.op (mV (.Bs K ok z x k))=true) {b:Nat} {es:List AV} {r:Option (Nat × AV)}
  (hx:mapOf (bp c s.env x)=some b) (hb:aJ s.H b=some es) (hp:dq es=true/\(pl (bp c s.env k)=true/\AW K (bp c s.env k) (bp c s.env k)=some true)) (hf:iQ K (bp c s.env k) es 0=some r) (hz:pl z=true):nh P X φ w B base s (mgv ok z r) o a:=by
 obtain⟨N,Ha,h,EE⟩:=h;obtain⟨Ve,q1,h1⟩:=h.aiP hb hp.1;obtain⟨⟨y1,k1⟩,y2,k2⟩:=afs hk;have ex:=cJ (c:=c) (cA:=hU c) h1 rfl k1;have ek:=cJ (c:=c) (cA:=hU c) h1 rfl k2;have hmv:=El hx;have oi:pl (mgv ok z r)=true:=aej hf hp.1 hz;refine nh.of (mZ hm h1 hg hk (va:=mgv ok z r) (Ha':=Ve) (fl:=.rd (N.β b)) ?_) fun v' w' φ' r' hh ad=>?_
 ·simp only[mV,fO,ex.ev,ek.ev,hmv,aci,AD N hp.2.1,KT,q1,hp.2.2,if_true,hf]
 ·refine dU.quiet (h1.nZ ad hh h1.own (fun _ _=>rfl)) EE (vK _ oi) (nU (tr oi)) ?_;rw[nq N (tr oi),l9 N _ oi]; exact r'
theorem adP (hm:P.follows .mixedOrders=true) (h:SB X φ w B base s (tm a)) (hg:Am.dX (hU c) X φ w) {K:Kt} {x k y:E} (hk:cX P o.op (mV (.CH K x k y))=true) {b:Nat} {es:List AV} {r:Option (Nat × AV)}
  (hx:mapOf (bp c s.env x)=some b) (hb:aJ s.H b=some es) (hp:dq es=true/\((pl (bp c s.env k)=true/\pl (bp c s.env y)=true)/\AW K (bp c s.env k) (bp c s.env k)=some true)) (hf:iQ K (bp c s.env k) es 0=some r):nh P X φ w B base ⟨s.env,s.H.set b (some (CJ (bp c s.env k) (bp c s.env y) es r))⟩ .undef o a:=by
 obtain⟨N,Ha,h,EE⟩:=h;obtain⟨Ve,q1,h1⟩:=h.aiP hb hp.1;obtain⟨⟨y1,k1⟩,⟨y2,k2⟩,y3,k3⟩:=afr hk;have ex:=cJ (c:=c) (cA:=hU c) h1 rfl k1;have ek:=cJ (c:=c) (cA:=hU c) h1 rfl k2;have ey:=cJ (c:=c) (cA:=hU c) h1 rfl k3;have hmv:=El hx
 have oi:dq (CJ (bp c s.env k) (bp c s.env y) es r)=true:=by
  have hkv:pl (.dt [bp c s.env k,bp c s.env y])=true:=by simp[pl,dq,hp.2.1.1,hp.2.1.2]
  cases r with
  |none=>exact ZL hp.1 (by simp[dq,hkv])
  |some p=>exact ZK hp.1 hkv
 refine nh.of (mZ hm h1 hg hk (va:=.undef) (Ha':=Ve.set (N.β b) (some (CJ (bp c s.env k) (bp c s.env y) es r))) (fl:=.wr Ve.length [N.β b]) ?_) fun v' w' φ' r' hh ad=>?_
 ·simp only[mV,fO,ex.ev,ek.ev,ey.ev,hmv,aci,AD N hp.2.1.1,AD N hp.2.1.2,KT,q1,hp.2.2,if_true,hf]
 ·refine dU.quiet (h1.PD hb hp.1 oi ad hh (by rw[dz,if_pos ⟨rfl,dL q1⟩]) fun m hm=>by rw[dz,if_neg (fun e=>hm e.1)]) ⟨EE.1,by simpa using EE.2⟩ trivial trivial r'
end
end Go.Bm

/- Every operation that calls nothing. -/
namespace Go.Bm
open Go.Am
def oU:Kd->Bool
 |.call _ _=>true
 |.jC _ _=>true
 |_=>false
section
variable {P:Program} {X:Nat->Prop} {φ φ':dj} {w w':World} {N N':Names} {s s' s1:St} {Ha Ha':Heap} {t t':Nat->Value} {B:Nat->Nat} {base:Nat} {v va:AV} {v':Value} {c:eI} {o:Oper} {a:Act} {kd:Kd} {call:Nat->List AV->Heap->Option (AV × Heap)}
theorem Z7 (hm:P.follows .mixedOrders=true) (h:SB X φ w B base s (tm a)) (hg:Am.dX (hU c) X φ w) {k:Nat} {zs:List AV} {x:E} (hk:cX P o.op (mV (.clr k zs x))=true) (yx:(∃k',bp c s.env x=.own k' [])\/∃ k',bp c s.env x=.list k' []):nh P X φ w B base s .undef o a:=by
 obtain⟨N,Ha,h,hb⟩:=h;obtain⟨_,o1,h1⟩:=ah0 hk;have hx:=cJ (c:=c) (cA:=hU c) h rfl h1;refine nh.of (mZ (va:=.undef) (Ha':=Ha) hm h hg hk (fl:=.wr Ha.length []) ?_) fun v' w' φ' r hh ad=>?_
 ·rcases yx with⟨k',e⟩|⟨k',e⟩<;>simp only[mV,fO,hx.ev,e,gL,cS]
 ·exact dU.quiet (h.nZ ad hh h.own (fun _ _=>rfl)) hb trivial trivial r
theorem agO (hm:P.follows .mixedOrders=true) (h:SB X φ w B base s (tm a)) (hg:Am.dX (hU c) X φ w) {n m b off:Nat} {x:E} {hi:Option E} {cs:List AV} (hk:cX P o.op (mV (.Na n x hi))=true) (e1:bp c s.env x=.ptr b off) (mO:Da c s.env n n hi=some m) (hbk:aJ s.H b=some cs) (hl:off+n<=cs.length):nh P X φ w B base s (.sl 1 b off m) o a:=by
 obtain⟨N,Ha,h,hb⟩:=h;obtain⟨⟨o1,h1⟩,h2⟩:=aa6 hk;have hx:=cJ (c:=c) (cA:=hU c) h rfl h1;have g2:=Xj (cA:=hU c) h rfl h2 mO;obtain⟨as,a1,a2,_⟩:=h.box b cs hbk;refine nh.of (mZ (va:=.sl 1 (N.β b) off m) (Ha':=Ha) hm h hg hk (fl:=.rd (N.β b)) ?_) fun v' w' φ' r hh ad=>?_
 ·simp only[mV,fO,hx.ev,e1,gL,cS,g2,a1,a2];rw[if_pos hl]
 ·exact dU.quiet (h.nZ ad hh h.own (fun _ _=>rfl)) hb (dL hbk) trivial r
theorem ae8 {k off:Nat} {xs ys:List AV} (h1:∀x∈xs,x.cells.length=k) (h2:∀y∈ys,y.cells.length=k):aA (j9 xs off ys)=j9 (aA xs) (off*k) (aA ys):=by
 unfold j9;rw[l6,l6,A8 h1,OQ h1,gN h2,cK]
theorem adV (hm:P.follows .mixedOrders=true) (h:SB X φ w B base s (tm a)) (hg:Am.dX (hU c) X φ w) {k off n:Nat} {x y:E} (hk:cX P o.op (mV (.copy k x y))=true) {p:Rt} {xs ys:List AV} (yx:bp c s.env x=.dP k p off n) (hp:az s p=some (k,xs)) (hle:off+n<=xs.length) (hn0:n≠0) (hy:cont s k (bp c s.env y)=some ys) (A3:bC (aA ys)=true):nh P X φ w B base (setAt s p (.own k (j9 xs off (ys.take (min ys.length n))))) (.int .i64 (min ys.length n:Nat)) o a:=by
 obtain⟨N,Ha,h,hb⟩:=h;obtain⟨⟨o1,h1⟩,o2,h2⟩:=Uz hk;have hx:=cJ (c:=c) (cA:=hU c) h rfl h1;have dm:=hx.ok;rw[yx] at dm;obtain⟨news,n1,n2,n3,n4,n5⟩:=IQ h hg h2 hy A3;have eU:=h.own p k xs hp;rcases vj h dm with⟨b,hn,e2⟩|⟨_,_,TT,_⟩
 case inr=>exact absurd TT hn0
 rw[hn] at eU;obtain⟨cs,q1,q2,q3,q4⟩:=eU
 have Ih:off*k+n*k<=cs.length:=by
  have:=bS k hle;rw[cK] at this; omega
 generalize hm2:min ys.length n=m;have hm3:m<=n/\m<=ys.length:=by omega
 have hmk:m*k<=n*k:=bS k hm3.1
 have hml:(news.take (m*k)).length=m*k:=by
  rw[bw,n2];have:=bS k hm3.2;omega
 have IH:∀z∈ys.take m,z.cells.length=k:=fun z hz=>n3 z (dh hz);have hfl:aA (ys.take m)=(aA ys).take (m*k):=A8 n3 m;have hyl:(ys.take m).length=m:=by rw[bw]; omega
 have hfl2:(aA (ys.take m)).length=m*k:=by rw[gN IH,hyl]
 have hxk:off*k+m*k<=(aA xs).length:=by
  rw[gN q3];have:=bS k hle;rw[cK] at this; omega
 refine nh.of (mZ (va:=.int .i64 (m:Nat)) (Ha':=Ha.set b (some (j9 cs (off*k) (news.take (m*k))))) hm h hg hk (fl:=.wr Ha.length [b]) ?_) fun v' w' φ' r hh ad=>?_
 ·simp only[mV,fO,n1,hx.ev,yx,gL,e2,q1,hm2];rw[if_pos ⟨trivial,Ih,n4⟩]
 have hnew:qQ (Ha.set b (some (j9 cs (off*k) (news.take (m*k))))) (some b) k (j9 xs off (ys.take m)):=by
  refine⟨j9 cs (off*k) (news.take (m*k)),by rw[dz,if_pos ⟨rfl,dL q1⟩],?_,?_,?_⟩
  ·rw[gK (by rw[hyl]; omega),gK (by rw[hml]; omega)]; exact q2
  ·intro z hz;unfold j9 at hz;simp only[aF] at hz;rcases hz with (hz|hz)|hz
   ·exact q3 z (dh hz)
   ·exact IH z hz
   ·exact q3 z (di hz)
  ·intro i d hd;rw[ae8 q3 IH,nt (by rw[hfl2]; exact hxk),hfl2] at hd;rw[nt (by rw[hml]; omega),hml];split
   ·rename_i hc; rw[if_pos hc] at hd; exact q4 i d hd
   ·rename_i hc;rw[if_neg hc] at hd;split
    ·rename_i IJ;rw[if_pos IJ,hfl,bP,if_pos (by omega)] at hd;obtain⟨f1,e,f2,f3,f4⟩:=n5 _ d hd;exact⟨f1,e,by rw[bP,if_pos (by omega)]; exact f2,f3,f4⟩
    ·rename_i IJ; rw[if_neg IJ] at hd; exact q4 i d hd
 obtain⟨fY,jz⟩:=h.upd (xs':=j9 xs off (ys.take m)) hp hn (gK (by rw[hyl]; omega)) ad hh hnew (fun m' E5=>by rw[dz,if_neg (fun e=>E5 e.1)]);exact dU.quiet fY ⟨hb.1,by rw[jz.len]; exact hb.2⟩ trivial trivial r
theorem adW (hm:P.follows .mixedOrders=true) (h:SB X φ w B base s (tm a)) (hg:Am.dX (hU c) X φ w) {k off:Nat} {x y:E} (hk:cX P o.op (mV (.copy k x y))=true) {p:Rt} {ys:List AV} (yx:bp c s.env x=.dP k p off 0) (hy:cont s k (bp c s.env y)=some ys) (A3:bC (aA ys)=true):nh P X φ w B base s (.int .i64 0) o a:=by
 obtain⟨N,Ha,h,hb⟩:=h;obtain⟨⟨o1,h1⟩,o2,h2⟩:=Uz hk;have hx:=cJ (c:=c) (cA:=hU c) h rfl h1;have dm:=hx.ok;rw[yx] at dm;obtain⟨news,n1,n2,n3,n4,n5⟩:=IQ h hg h2 hy A3;rcases vj h dm with⟨b,hn,e2⟩|⟨_,_,_,e2⟩
 ·simp only[cP] at dm;obtain⟨xs,hp,hle⟩:=dm;have eU:=h.own p k xs hp;rw[hn] at eU;obtain⟨cs,q1,q2,q3,q4⟩:=eU
  have Ih:off*k+0*k<=cs.length:=by
   have:=bS k hle;rw[cK] at this; omega
  refine nh.of (mZ (va:=.int .i64 0) (Ha':=Ha) hm h hg hk (fl:=.wr Ha.length [b]) ?_) fun v' w' φ' r hh ad=>dU.quiet (h.nZ ad hh h.own (fun _ _=>rfl)) hb trivial trivial r;have he:j9 cs (off*k) []=cs:=by unfold j9; simp
  have Ie:Ha.set b (some cs)=Ha:=by
   apply dN;intro i;rw[aR];split
   ·rename_i hbi; subst hbi; rw[if_pos (dL q1)]; exact (tR q1).symm
   ·rfl
  simp only[mV,fO,n1,hx.ev,yx,gL,e2,q1];rw[if_pos ⟨trivial,Ih,n4⟩];simp[he,Ie]
 ·refine nh.of (mZ (va:=.int .i64 0) (Ha':=Ha) hm h hg hk (fl:=.wr Ha.length []) ?_) fun v' w' φ' r hh ad=>dU.quiet (h.nZ ad hh h.own (fun _ _=>rfl)) hb trivial trivial r;simp only[mV,fO,n1,hx.ev,yx,gL,e2]
theorem agt {f:Fq} (h1:oU kd=false) (h2:fk c call s kd=some (v,s',f)):(VZ c s.env kd=some v/\s'=s)\/(∃zs,kd=.new zs)\/(∃x,kd=.box x)\/(∃k n zs ps,kd=.dK k n zs ps)\/(∃k zs l cp,kd=.P6 k zs l cp)\/(∃ag x,kd=.ld ag x)\/(∃k x y,kd=.st k x y)\/(∃k zs x,kd=.clr k zs x)\/(∃k x y,kd=.app k x y)\/(∃n x hi,kd=.Na n x hi)\/(∃k x y,kd=.copy k x y)\/kd=.FA\/(∃K ok z x k,kd=.Bs K ok z x k)\/(∃K x k y,kd=.CH K x k y):=by
 cases kd<;>simp only[fk] at h2<;>first
  | (left
     split at h2
     ·rename_i u hu;simp only[af,aC] at h2;obtain⟨rfl,rfl,_⟩:=h2;exact⟨hu,rfl⟩
     ·cases h2)
  |(right; simp; done)
  |(simp[oU] at h1; done)
theorem ake (hm:P.follows .mixedOrders=true) (h:SB X φ w B base s (tm a)) (hg:Am.dX (hU c) X φ w) {f:Fq} (hk:cX P o.op (mV kd)=true) (hnc:oU kd=false) (hs:fk c call s kd=some (v,s',f)):nh P X φ w B base s' v o a:=by
 rcases agt hnc hs with⟨h1,rfl⟩|⟨zs,rfl⟩|⟨x,rfl⟩|⟨k,n,zs,ps,rfl⟩|⟨k,zs,l,cp,rfl⟩|⟨ag,x,rfl⟩|⟨k,x,y,rfl⟩|⟨k,zs,x,rfl⟩|⟨k,x,y,rfl⟩|⟨n,x,hi,rfl⟩|⟨k,x,y,rfl⟩|rfl|⟨K,ok,z,x,k,rfl⟩|⟨K,x,k,y,rfl⟩
 ·exact Z4 hm h hg hk h1
 ·simp only[fk,af,aC] at hs;obtain⟨rfl,rfl,_⟩:=hs;exact V0 hm h hg hk
 ·simp only[fk] at hs;split at hs
  case isFalse=>cases hs
  rename_i hl;simp only[af,aC] at hs;obtain⟨rfl,rfl,_⟩:=hs;exact agN hm h hg hk hl
 ·simp only[fk] at hs;split at hs
  case h_2=>cases hs
  rename_i cs hf;split at hs
  case isFalse=>cases hs
  rename_i hz;simp only[af,aC] at hs;obtain⟨rfl,rfl,_⟩:=hs;obtain⟨lV,h1,a1⟩:=SB.eE (ig c s.env ps) h;exact nh.ghost a1 (V4 hm h1 (hg.nZ a1) hk hf hz)
 ·simp only[fk] at hs;split at hs
  case h_2=>cases hs
  rename_i k1 l' k2 cp' e1 e2;split at hs
  case isFalse=>cases hs
  rename_i hc;split at hs
  ·rename_i z hz;simp only[af,aC] at hs;obtain⟨rfl,rfl,_⟩:=hs;exact agH hm h hg hk hz e1 e2 hc
  ·simp only[af,aC] at hs;obtain⟨rfl,rfl,_⟩:=hs;exact agI hm h hg hk e1 e2 hc
 ·simp only[fk] at hs;split at hs
  case h_2=>cases hs
  rename_i u ps hp;split at hs
  case isFalse=>cases hs
  simp only[af,aC] at hs;obtain⟨rfl,rfl,_⟩:=hs;exact akp hm h hg hk hp
 ·simp only[fk] at hs;split at hs
  ·rename_i k' p i off e0;split at hs
   case h_2=>cases hs
   rename_i s2 f2 h2;simp only[af,aC] at hs;obtain⟨rfl,rfl,_⟩:=hs;obtain⟨lV,h1,a1⟩:=SB.eE (aS (bp c s.env y)) h;refine nh.ghost a1 ?_;generalize eE (aS (bp c s.env y)) s=s3 at h1 h2;unfold UZ at h2;split at h2
   ·rename_i b off' e1;exact Sr hm h1 (hg.nZ a1) hk e1 h2
   ·rename_i k2 p2 i2 off2 e1;split at h2
    case h_2=>cases h2
    rename_i k3 xs hp;split at h2
    case isFalse=>cases h2
    rename_i wh;subst wh;split at h2
    case h_2=>cases h2
    rename_i u hu;split at h2
    case isFalse=>cases h2
    rename_i hc;simp only[af,aC] at h2;obtain⟨rfl,_⟩:=h2;exact akh hm h1 (hg.nZ a1) hk e1 hp hu hc.1 hc.2.1 hc.2.2
   ·cases h2
  ·rename_i hnp;split at hs
   case h_2=>cases hs
   rename_i s2 f2 h2;simp only[af,aC] at hs;obtain⟨rfl,rfl,_⟩:=hs;unfold UZ at h2;split at h2
   ·rename_i b off' e1;exact Sr hm h hg hk e1 h2
   ·rename_i k2 p2 i2 off2 e1;exact absurd e1 (hnp k2 p2 i2 off2)
   ·cases h2
 ·simp only[fk] at hs;split at hs
  ·rename_i k' e1;simp only[af,aC] at hs;obtain⟨rfl,rfl,_⟩:=hs;exact Z7 hm h hg hk (.inl ⟨k',e1⟩)
  ·rename_i k' e1;simp only[af,aC] at hs;obtain⟨rfl,rfl,_⟩:=hs;exact Z7 hm h hg hk (.inr ⟨k',e1⟩)
  ·cases hs
 ·simp only[fk] at hs;split at hs
  case h_2=>cases hs
  rename_i ys hy;split at hs
  case isFalse=>cases hs
  rename_i A3;split at hs
  ·rename_i k' e1;split at hs
   case isFalse=>cases hs
   rename_i hl;simp only[af,aC] at hs;obtain⟨rfl,rfl,_⟩:=hs;exact agQ hm h hg hk e1 hy A3 hl
  ·rename_i k' p len e1;split at hs
   case h_2=>cases hs
   rename_i AX xs hp;split at hs
   case isFalse=>cases hs
   rename_i hc;obtain⟨rfl,rfl,hle,hl⟩:=hc;simp only[af,aC] at hs;obtain⟨rfl,rfl,_⟩:=hs;exact agP hm h hg hk e1 hp hle hy A3 hl
  ·cases hs
 ·simp only[fk] at hs;split at hs
  ·rename_i b off e1;split at hs
   case h_2=>cases hs
   rename_i m cs mO hbk;split at hs
   case isFalse=>cases hs
   rename_i hl;simp only[af,aC] at hs;obtain⟨rfl,rfl,_⟩:=hs;exact agO hm h hg hk e1 mO hbk hl
  ·split at hs
   case h_2=>cases hs
   rename_i u hu;simp only[af,aC] at hs;obtain⟨rfl,rfl,_⟩:=hs;exact Z4 hm h hg hk hu
 ·simp only[fk] at hs;split at hs
  case h_2=>cases hs
  rename_i k' p off n e1;split at hs
  ·rename_i hn;subst hn;split at hs
   case h_2=>cases hs
   rename_i ys hy;split at hs
   case isFalse=>cases hs
   rename_i hc;obtain⟨rfl,hl⟩:=hc;simp only[af,aC] at hs;obtain⟨rfl,rfl,_⟩:=hs;exact adW hm h hg hk e1 hy hl
  ·rename_i hn;split at hs
   case h_2=>cases hs
   rename_i AX xs ys hp hy;split at hs
   case isFalse=>cases hs
   rename_i hc;obtain⟨rfl,rfl,hle,hl⟩:=hc;simp only[af,aC] at hs;obtain⟨rfl,rfl,_⟩:=hs;exact adV hm h hg hk e1 hp hle hn hy hl
 ·simp only[fk,af,aC] at hs;obtain⟨rfl,rfl,_⟩:=hs;exact adQ hm h hg hk
 ·simp only[fk] at hs;split at hs
  case h_2=>cases hs
  rename_i b e1;split at hs
  case h_2=>cases hs
  rename_i es e2;split at hs
  case isFalse=>cases hs
  rename_i hp;split at hs
  case h_2=>cases hs
  rename_i r e3;split at hs
  case isFalse=>cases hs
  rename_i hz;simp only[af,aC] at hs;obtain⟨rfl,rfl,_⟩:=hs;exact adT hm h hg hk e1 e2 hp e3 hz
 ·simp only[fk] at hs;split at hs
  case h_2=>cases hs
  rename_i b e1;split at hs
  case h_2=>cases hs
  rename_i es e2;split at hs
  case isFalse=>cases hs
  rename_i hp;split at hs
  case h_2=>cases hs
  rename_i r e3;simp only[af,aC] at hs;obtain⟨rfl,rfl,_⟩:=hs;exact adP hm h hg hk e1 e2 hp e3
end
end Go.Bm

/- Calls: arguments by value. -/
namespace Go.Bm
open Go.Am
section
variable {P:Program} {X:Nat->Prop} {φ φ':dj} {w w':World} {N N':Names} {s s' s1:St} {Ha Ha':Heap} {t t':Nat->Value} {B:Nat->Nat} {base:Nat} {v va:AV} {v':Value} {c:eI} {o:Oper} {a:Act} {kd:Kd} {call:Nat->List AV->Heap->Option (AV × Heap)}
theorem H6 (h:cj X φ w Ha) {n k:Nat} {xs:List AV} (ho:qQ Ha (some n) k xs) {off len:Nat} (hle:off+len<=xs.length) {v:Value} (r:bO (Rd X φ w) φ (.sl k n (off*k) len) v) :
  bO (Rd X [] w) [] (.list k ((xs.drop off).take len)) v:=by
 obtain⟨g,sz,jK,hX,hc⟩:=sV h ho;have wO:∀a u,Rd X φ w a u->Rd X [] w a u:=fun a u ⟨h1,_,h3⟩=>⟨h1,bQ.nil _,h3⟩;cases r with
 |sl _ _ _ _ _ a cap hb iC hh=>
   obtain⟨h1,h2⟩:=hh g sz jK;by_cases h0:len=0
   ·subst h0;simp only[qi];exact .yd _ _ _ _ _ _ (fun _ _=>undef) rfl iC (fun x hx=>by simp at hx) (fun i j x c hx=>by simp at hx) (fun i j x c hx=>by simp at hx)
   ·have ha:=h1 (by omega);subst ha
    have hx:∀(i:Nat) (x:AV),((xs.drop off).take len)[i]?=some x->xs[off+i]?=some x/\i<len:=by
     intro i x hx;rw[bP] at hx;split at hx
     ·rw[bf] at hx; exact⟨hx,‹_›⟩
     ·cases hx
    obtain⟨cs,q1,q2,hk,q4⟩:=ho;refine .yd _ _ _ _ _ _ (fun i j=>(w.cell? ⟨g,(off+i)*k+j,none⟩).getD undef) (by simp; omega) iC (fun x hm=>?_) (fun i j x c hi hj=>?_) (fun i j x c hi hj=>?_)
    ·exact hk x (di (dh hm))
    ·obtain⟨u,u1,_,_⟩:=hc _ j x c (hx i x hi).1 hj;rw[u1,Addr.ju,show off*k+(i*k+j)=(off+i)*k+j by rw[cK]; omega];exact⟨hX,bQ.nil _,u1⟩
    ·obtain⟨u,u1,_,u3⟩:=hc _ j x c (hx i x hi).1 hj;rw[u1];exact u3.mono wO (.refl _)
mutual
theorem fV (h:eW X φ w N s Ha t):∀(x y:AV),mU false s x=some y->cP (az s) s.H.length x->(pl y=true/\∀ v,bO (Rd X φ w) φ (cS N x) v->bO (Rd X [] w) [] y v)
 |.dP k p off len,y,hf,hk=>by
   simp only[mU] at hf;split at hf
   case h_2=>cases hf
   rename_i k' xs hp;split at hf
   case isFalse=>cases hf
   rename_i hc;obtain⟨rfl,hle⟩:=hc;simp at hf;subst hf;refine⟨rfl,fun v r=>?_⟩;have eU:=h.own p k' xs hp;rcases vj h hk with⟨n,hn,e2⟩|⟨hn,h0,h1,e2⟩
   ·rw[e2] at r;rw[hn] at eU;exact H6 h.heap eU hle r
   ·rw[e2] at r;subst h1;simp only[qi];cases r;exact .lx _ _
 |.agg cs,y,hf,hk=>by
   simp only[mU] at hf;split at hf
   case h_2=>cases hf
   rename_i ds hd;simp at hf;subst hf;simp only[cP] at hk;obtain⟨h1,h2,h3⟩:=zX h cs ds hd hk;refine⟨h1,fun v r=>?_⟩;simp only[cS] at r;cases r with
   |agg _ _ vs hl hh=>exact .agg _ _ _ (by rw[h2,<-dQ N cs]; exact hl) (fun i d u HO hu=>h3 i d u HO (fun z hz=>hh i z u hz hu))
 |.dt cs,y,hf,hk=>by
   simp only[mU] at hf;split at hf
   case h_2=>cases hf
   rename_i ds hd;simp at hf;subst hf;simp only[cP] at hk;obtain⟨h1,h2,h3⟩:=zX h cs ds hd hk;refine⟨h1,fun v r=>?_⟩;simp only[cS] at r;cases r with
   |dt _ _ vs hl hh=>exact .dt _ _ _ (by rw[h2,<-dQ N cs]; exact hl) (fun i d u HO hu=>h3 i d u HO (fun z hz=>hh i z u hz hu))
 |.func f a b,y,hf,hk=>by
   simp only[mU] at hf;split at hf
   case h_2=>cases hf
   rename_i a' b' ha hb;simp at hf;subst hf;simp only[cP] at hk;obtain⟨h1,h2,h3⟩:=zX h a a' ha hk.1;obtain⟨k1,k2,k3⟩:=zX h b b' hb hk.2.1
   have hny:Ew f=false:=by
    cases hy:Ew f with
    |false=>rfl
    |true=>obtain⟨_,c,rfl⟩:=hk.2.2 hy; simp[FZ,mU] at hb
   refine⟨by simp only[pl,ae,bJ]; exact⟨hny,h1,k1⟩,fun v r=>?_⟩;simp only[cS] at r;rcases r.zW with⟨hy,va,vb,rfl,CW,CV,hra,hrb⟩|⟨_,_,rfl,_⟩
   case inr=>simp[Ew] at hny
   ·exact .func _ _ _ _ _ _ hy (by rw[h2,<-dQ N a]; exact CW) (by rw[k2,<-dQ N b]; exact CV) (fun i d u HO hu=>h3 i d u HO (fun z hz=>hra i z u hz hu)) (fun i d u HO hu=>k3 i d u HO (fun z hz=>hrb i z u hz hu))
 |.own _ _,y,hf,hk=>by simp[mU] at hf
 |.fv _ _ _ _,y,hf,hk=>by simp[mU] at hf
 |.ptr _ _,y,hf,hk=>by simp[mU] at hf
 |.sl _ _ _ _,y,hf,hk=>by simp[mU] at hf
 |.any,y,hf,hk=>by simp[mU] at hf
 |.undef,y,hf,hk=>by simp[mU] at hf; subst hf; exact⟨rfl,fun v r=>(r.dD rfl []).mono (fun a u ⟨h1,_,h3⟩=>⟨h1,bQ.nil _,h3⟩) (.refl _)⟩
 |.fN,y,hf,hk=>by simp[mU] at hf; subst hf; exact⟨rfl,fun v r=>(r.dD rfl []).mono (fun a u ⟨h1,_,h3⟩=>⟨h1,bQ.nil _,h3⟩) (.refl _)⟩
 |.fS,y,hf,hk=>by simp[mU] at hf; subst hf; exact⟨rfl,fun v r=>(r.dD rfl []).mono (fun a u ⟨h1,_,h3⟩=>⟨h1,bQ.nil _,h3⟩) (.refl _)⟩
 |.du,y,hf,hk=>by simp[mU] at hf; subst hf; exact⟨rfl,fun v r=>(r.dD rfl []).mono (fun a u ⟨h1,_,h3⟩=>⟨h1,bQ.nil _,h3⟩) (.refl _)⟩
 |.int _ _,y,hf,hk=>by simp[mU] at hf; subst hf; exact⟨rfl,fun v r=>(r.dD rfl []).mono (fun a u ⟨h1,_,h3⟩=>⟨h1,bQ.nil _,h3⟩) (.refl _)⟩
 |.bool _,y,hf,hk=>by simp[mU] at hf; subst hf; exact⟨rfl,fun v r=>(r.dD rfl []).mono (fun a u ⟨h1,_,h3⟩=>⟨h1,bQ.nil _,h3⟩) (.refl _)⟩
 |.str _,y,hf,hk=>by simp[mU] at hf; subst hf; exact⟨rfl,fun v r=>(r.dD rfl []).mono (fun a u ⟨h1,_,h3⟩=>⟨h1,bQ.nil _,h3⟩) (.refl _)⟩
 |.list _ _,y,hf,hk=>by simp[mU] at hf; subst hf; exact⟨rfl,fun v r=>(r.dD rfl []).mono (fun a u ⟨h1,_,h3⟩=>⟨h1,bQ.nil _,h3⟩) (.refl _)⟩
 |.dy _,y,hf,hk=>by simp[mU] at hf; subst hf; exact⟨rfl,fun v r=>(r.dD rfl []).mono (fun a u ⟨h1,_,h3⟩=>⟨h1,bQ.nil _,h3⟩) (.refl _)⟩
theorem zX (h:eW X φ w N s Ha t):∀(xs ys:List AV),FZ false s xs=some ys->mg (az s) s.H.length xs->(dq ys=true/\ys.length=xs.length/\∀ (i:Nat) (y:AV) (v:Value),ys[i]?=some y->(∀z,(mR N xs)[i]?=some z->bO (Rd X φ w) φ z v)->bO (Rd X [] w) [] y v)
 |[],ys,hf,_=>by simp[FZ] at hf; subst hf; exact⟨rfl,rfl,fun i y v hy=>by simp at hy⟩
 |x::r,ys,hf,hk=>by
   simp only[FZ] at hf;split at hf
   case h_2=>cases hf
   rename_i y Df h1 h2;simp at hf;subst hf;obtain⟨a1,a2⟩:=fV h x y h1 hk.1;obtain⟨b1,b2,b3⟩:=zX h r Df h2 hk.2;refine⟨by simp only[dq,ae]; exact⟨a1,b1⟩,by simp[b2],fun i z v hz hv=>?_⟩;cases i with
   |zero=>simp[mR] at hz hv; subst hz; exact a2 v hv
   |succ i=>simp[mR] at hz hv; exact b3 i z v hz hv
end
theorem ae7 (h:eW X φ w N s Ha t) {r:Rt} {x y:AV} (hx:at_ s r=some x) (hf:WT x=some y):(pl y=true/\y.cells=[y])/\∀ v,bO (Rd X φ w) φ (jx N r x) v->bO (Rd X [] w) [] y v:=by
 unfold WT at hf;split at hf
 ·rename_i k xs;simp at hf;subst hf;refine⟨⟨rfl,rfl⟩,fun v rv=>?_⟩;have eU:=h.own r k xs (cC.2 hx);simp only[jx,rU] at rv;cases hn:N.ν r with
  |none=>
    rw[hn] at eU rv;have:xs=[]:=eU;subst this;simp only at rv;cases rv;exact .lx _ _
  |some n=>
    rw[hn] at eU rv;have:=H6 (off:=0) (len:=xs.length) h.heap eU (by omega) (v:=v) (by simpa using rv);simpa using this
 ·rename_i iv;split at hf
  case isFalse=>cases hf
  rename_i hz;simp at hf;subst hf;obtain⟨h1,h2⟩:=mh hz;refine⟨⟨h1,by cases x<;>first|rfl|(simp[AV.leaf] at h2; done)⟩,fun v rv=>?_⟩;have e:jx N r x=cS N x:=by cases x<;>first|rfl|exact (iv _ _ rfl).elim
  rw[e,l9 N x h1] at rv;exact (rv.dD (fQ _ h1) []).mono (fun a u ⟨h1,_,h3⟩=>⟨h1,bQ.nil _,h3⟩) (.refl _)
theorem OL:∀{cs ys:List AV},BW cs=some ys->ys.length=cs.length/\∀ (i:Nat) (y:AV),ys[i]?=some y->∃x,cs[i]?=some x/\WT x=some y
 |[],ys,h=>by simp[BW] at h; subst h; exact⟨rfl,fun i y hy=>by simp at hy⟩
 |x::r,ys,h=>by
   simp only[BW] at h;split at h
   case h_2=>cases h
   rename_i y Df h1 h2;simp at h;subst h;obtain⟨k1,k2⟩:=OL h2;refine⟨by simp[k1],fun i z hz=>?_⟩;cases i with
   |zero=>simp at hz; subst hz; exact⟨x,rfl,h1⟩
   |succ i=>simp at hz; obtain⟨u,u1,u2⟩:=k2 i z hz; exact⟨u,by simpa using u1,u2⟩
theorem T8 (h:eW X φ w N s Ha t) {k b off len:Nat} {y:AV} (hf:T9 s k b off len=some y):pl y=true/\∀ v,bO (Rd X φ w) φ (cS N (.sl k b off len)) v->bO (Rd X [] w) [] y v:=by
 unfold T9 at hf;split at hf
 case h_2=>cases hf
 rename_i cs hb;split at hf
 case isFalse=>cases hf
 rename_i hc;obtain⟨rfl,hle⟩:=hc;split at hf
 case h_2=>cases hf
 rename_i ys hy;simp at hf;subst hf;refine⟨rfl,fun v r=>?_⟩;obtain⟨as,a1,a2,a3⟩:=h.box b cs hb;obtain⟨k1,k2⟩:=OL hy;have hyl:ys.length=len:=by rw[k1,bw,List.length_drop]; omega
 simp only[cS] at r;cases r with
 |sl _ _ _ _ _ a cap iE iC hh=>
   obtain⟨g,sz,arr,e,g1,g2,g3,g4,g5,g6⟩:=h.heap.cat a1 (fun g sz q=>by have:=(hh g sz q).2; omega);obtain⟨h1,h2⟩:=hh g sz g1;by_cases h0:len=0
   ·subst h0;have:ys=[]:=eC hyl;subst this;exact .yd _ _ _ _ _ _ (fun _ _=>undef) rfl iC (fun x hx=>by simp at hx) (fun i j x c hx=>by simp at hx) (fun i j x c hx=>by simp at hx)
   ·have ha:=h1 (by omega);subst ha
    have cell:∀(i:Nat) (y:AV),ys[i]?=some y->(pl y=true/\y.cells=[y])/\∃ u,w.cell? ⟨g,off+i,none⟩=some u/\bO (Rd X [] w) [] y u:=by
     intro i y hi;obtain⟨x,x1,x2⟩:=k2 i y hi
     have x3:cs[off+i]?=some x:=by
      rw[bP] at x1;split at x1
      ·rw[bf] at x1; exact x1
      ·cases x1
     obtain⟨_,a',b1,b2⟩:=a3 _ x x3;obtain⟨u,u1,u2⟩:=g6 _ a' b1;obtain⟨c1,c2⟩:=ae7 h (r:=.c b (off+i)) (x:=x) (by simp only[at_,hb]; exact x3) x2;exact⟨c1,u,by rw[gg g2]; exact u1,c2 u (b2 _ _ _ u2)⟩
    refine .yd _ _ _ _ _ _ (fun i j=>(w.cell? ⟨g,off+i,none⟩).getD undef) hyl.symm iC (fun x hm=>?_) (fun i j x c hi hj=>?_) (fun i j x c hi hj=>?_)
    ·obtain⟨i,hi⟩:=bE hm;rw[(cell i x hi).1.2]; rfl
    ·obtain⟨⟨q1,q2⟩,u,u1,u2⟩:=cell i x hi;rw[q2] at hj;have hj0:j=0:=by have:=ak hj; simp at this; exact this
     subst hj0;rw[u1,Addr.ju,show off+(i*1+0)=off+i by omega];exact⟨g5,bQ.nil _,u1⟩
    ·obtain⟨⟨q1,q2⟩,u,u1,u2⟩:=cell i x hi;rw[q2] at hj;have hj0:j=0:=by have:=ak hj; simp at this; exact this
     subst hj0;simp at hj;subst hj;rw[u1];exact u2
mutual
theorem Ua (h:eW X φ w N s Ha t):∀(x y:AV),WS s x=some y->cP (az s) s.H.length x->(pl y=true/\∀ v,bO (Rd X φ w) φ (cS N x) v->bO (Rd X [] w) [] y v)
 |.sl k b off len,y,hf,_=>by simp only[WS] at hf; exact T8 h hf
 |.dt cs,y,hf,hk=>by
   simp only[WS] at hf;split at hf
   case h_2=>cases hf
   rename_i ds hd;simp at hf;subst hf;simp only[cP] at hk;obtain⟨h1,h2,h3⟩:=OJ h cs ds hd hk;refine⟨h1,fun v r=>?_⟩;simp only[cS] at r;cases r with
   |dt _ _ vs hl hh=>exact .dt _ _ _ (by rw[h2,<-dQ N cs]; exact hl) (fun i d u HO hu=>h3 i d u HO (fun z hz=>hh i z u hz hu))
 |.any,y,hf,hk=>fV h _ y hf hk
 |.undef,y,hf,hk=>fV h _ y hf hk
 |.fN,y,hf,hk=>fV h _ y hf hk
 |.fS,y,hf,hk=>fV h _ y hf hk
 |.du,y,hf,hk=>fV h _ y hf hk
 |.int _ _,y,hf,hk=>fV h _ y hf hk
 |.bool _,y,hf,hk=>fV h _ y hf hk
 |.str _,y,hf,hk=>fV h _ y hf hk
 |.agg _,y,hf,hk=>fV h _ y hf hk
 |.list _ _,y,hf,hk=>fV h _ y hf hk
 |.dy _,y,hf,hk=>fV h _ y hf hk
 |.ptr _ _,y,hf,hk=>fV h _ y hf hk
 |.func _ _ _,y,hf,hk=>fV h _ y hf hk
 |.own _ _,y,hf,hk=>fV h _ y hf hk
 |.dP _ _ _ _,y,hf,hk=>fV h _ y hf hk
 |.fv _ _ _ _,y,hf,hk=>fV h _ y hf hk
theorem OJ (h:eW X φ w N s Ha t):∀(xs ys:List AV),OK s xs=some ys->mg (az s) s.H.length xs->(dq ys=true/\ys.length=xs.length/\∀ (i:Nat) (y:AV) (v:Value),ys[i]?=some y->(∀z,(mR N xs)[i]?=some z->bO (Rd X φ w) φ z v)->bO (Rd X [] w) [] y v)
 |[],ys,hf,_=>by simp[OK] at hf; subst hf; exact⟨rfl,rfl,fun i y v hy=>by simp at hy⟩
 |x::r,ys,hf,hk=>by
   simp only[OK] at hf;split at hf
   case h_2=>cases hf
   rename_i y Df h1 h2;simp at hf;subst hf;obtain⟨a1,a2⟩:=Ua h x y h1 hk.1;obtain⟨b1,b2,b3⟩:=OJ h r Df h2 hk.2;refine⟨by simp only[dq,ae]; exact⟨a1,b1⟩,by simp[b2],fun i z v hz hv=>?_⟩;cases i with
   |zero=>simp[mR] at hz hv; subst hz; exact a2 v hv
   |succ i=>simp[mR] at hz hv; exact b3 i z v hz hv
end
theorem LF (h:eW X φ w N s Ha t):∀(xs ys:List AV),wY s xs=some ys->mg (az s) s.H.length xs->(dq ys=true/\ys.length=xs.length/\∀ (i:Nat) (y:AV) (v:Value),ys[i]?=some y->(∀z,(iI N xs)[i]?=some z->bO (Rd X φ w) φ z v)->bO (Rd X [] w) [] y v)
 |[],ys,hf,_=>by simp[wY] at hf; subst hf; exact⟨rfl,rfl,fun i y v hy=>by simp at hy⟩
 |x::r,ys,hf,hk=>by
   have gen:∀{y Df},(pl y=true/\∀ v,bO (Rd X φ w) φ (cS N x) v->bO (Rd X [] w) [] y v)->wY s r=some Df->(∀k l,x≠.own k l)->ys=y::Df->(dq ys=true/\ys.length=(x::r).length/\∀ (i:Nat) (y:AV) (v:Value),ys[i]?=some y->(∀z,(iI N (x::r))[i]?=some z->bO (Rd X φ w) φ z v)->bO (Rd X [] w) [] y v):=by
    intro y Df h1 h2 hn e;subst e;obtain⟨a1,a2⟩:=h1;obtain⟨b1,b2,b3⟩:=LF h r Df h2 hk.2;have ex:gL N x=cS N x:=by cases x<;>first|rfl|exact absurd rfl (hn _ _)
    refine⟨by simp only[dq,ae]; exact⟨a1,b1⟩,by simp[b2],fun i z v hz hv=>?_⟩;cases i with
    |zero=>simp[iI] at hz hv; subst hz; rw[ex] at hv; exact a2 v hv
    |succ i=>simp[iI] at hz hv; exact b3 i z v hz hv
   by_cases ho:∃k,x=.own k []
   ·obtain⟨k,rfl⟩:=ho;simp only[wY] at hf;split at hf
    case h_2=>cases hf
    rename_i Df h2;simp at hf;subst hf;obtain⟨b1,b2,b3⟩:=LF h r Df h2 hk.2;refine⟨by simp only[dq,pl,jb]; exact b1,by simp[b2],fun i z v hz hv=>?_⟩;cases i with
    |zero=>
      simp[iI,gL] at hz hv;subst hz;cases hv;exact .lx _ _
    |succ i=>simp[iI] at hz hv; exact b3 i z v hz hv
   ·have hn:∀k l,x≠.own k l:=by
     rintro k l rfl;cases l with
     |nil=>exact ho ⟨k,rfl⟩
     |cons z l=>simp[wY,mU] at hf
    by_cases iR:∃k b off len,x=.sl k b off len
    ·obtain⟨k,b,off,len,rfl⟩:=iR;simp only[wY] at hf;split at hf
     case h_2=>cases hf
     rename_i y Df h1 h2;simp at hf;exact gen (T8 h h1) h2 hn hf.symm
    rw[wY] at hf
    ·split at hf
     case h_2=>cases hf
     rename_i y Df h1 h2;simp at hf;exact gen (fV h x y h1 hk.1) h2 hn hf.symm
    ·exact fun k e=>ho ⟨k,e⟩
    ·exact fun k b off len e=>iR ⟨k,b,off,len,e⟩
end
end Go.Bm

/- Calls of functions that see no boxes. -/
namespace Go.Bm
open Go.Am
section
variable {P:Program} {X:Nat->Prop} {φ φ':dj} {w w':World} {N N':Names} {s s' s1:St} {Ha Ha':Heap} {t t':Nat->Value} {B:Nat->Nat} {base:Nat} {v va:AV} {v':Value} {c:eI} {o:Oper} {a:Act} {kd:Kd} {call:Nat->List AV->Heap->Option (AV × Heap)}
def Io (X:Nat->Prop) (φ:dj) (w:World) (B:Nat->Nat) (base:Nat) (r:AV) (H':Heap) (e:Ending) (w':World):Prop:=
 ∃ v' φ',e=.returned v'/\SB X φ' w' B base ⟨[(0,r)],H'⟩ (fun i=>if i=0 then v' else undef)/\fg φ w φ' w'
def iw (P:Program) (c:eI) (call:Nat->List AV->Heap->Option (AV × Heap)):Prop:=
 ∀ f md q,c.fn f=some (md,q)->∀args H r H',(md.sh=true\/H=[])->call f args H=some (r,H')->(md.sh=true->kg H'=true)->∀X φ w B (vargs:Array Value),args.length=vargs.size->SB X φ w B H.length ⟨dH 0 args,H⟩ (fun i=>vargs.getD i undef)->Am.dX (hU c) X φ w->Calls P f vargs w (Io X φ w B H.length r H')
theorem BG (dm:fj P c) {f:Nat} {m:Md} {q:fW} (hf:c.fn f=some (m,q)) (vargs:Array Value):(callFunc f vargs).run P w=.ok (.enter f vargs) w:=by
 obtain⟨fn,h1,h2⟩:=dm.fn f m q hf;simp only[cI,ae,bJ] at h2;obtain⟨⟨⟨_,EB⟩,_⟩,vT⟩:=h2
 have hb:fn.body.isNone=false:=by
  cases hfb:fn.body with
  |none=>rw[hfb] at vT; cases vT
  |some b=>rfl
 simp only[callFunc,Sem.run_bind,run_program,Result.andThen_ok,h1,EB,hb,bk,if_false,Sem.run_pure]
def QS (R:Addr->Value->Prop) (φ:dj) (N:Names) (xs:List AV) (vs:Array Value):Prop:=xs.length=vs.size/\∀ (i:Nat) (x:AV) (v:Value),xs[i]?=some x->vs[i]?=some v->bO R φ (gL N x) v
theorem QS.append {R:Addr->Value->Prop} {xs ys:List AV} {vs us:Array Value} (h:QS R φ N xs vs) (k:QS R φ N ys us):QS R φ N (xs++ys) (vs++us):=by
 refine⟨by simp[h.1,k.1],fun i x v hx hv=>?_⟩;by_cases hi:i<xs.length
 ·rw[aq hi] at hx;rw[uJ (by have:=h.1; omega)] at hv;exact h.2 i x v hx hv
 ·rw[aM (by omega)] at hx;rw[Mx (by have:=h.1; omega),<-h.1] at hv;exact k.2 _ x v hx hv
theorem aft {op:Op} {f:Nat} {ys:List E} (h:cX P op (.call f ys)=true):∃ca:Call,op=.call ca/\ca.callee=.value (.func f)/\jB ca.args.toList ys=true:=by
 unfold cX at h;split at h<;>simp_all
theorem ab4 {op:Op} {y:E} {ys:List E} (h:cX P op (.jC y ys)=true):∃(ca:Call) (x:Operand),op=.call ca/\ca.callee=.value x/\cY x y=true/\jB ca.args.toList ys=true:=by
 unfold cX at h;split at h<;>simp_all
theorem nV (dm:fj P c) (h:eW X φ w N s Ha (tm a)) (hg:Am.dX (hU c) X φ w) (hk:cX P o.op (mV kd)=true) {f:Nat} {args:List AV} (ha:qM c s.env kd=some (f,args)) {md:Md} {q:fW} (hf:c.fn f=some (md,q)) :
  ∃ vargs:Array Value,(execOp a.eval o).run P w=.ok (.enter f vargs) w/\QS (Rd X φ w) φ N args vargs/\mg (az s) s.H.length args:=by
 have he:qR X φ w (Dg N s.env) a.tmps:=fun i=>by rw[oY]; exact h.env i
 have afb:∀{os:Array Operand} {xs:List E},jB os.toList (F1 xs)=true->QS (Rd X φ w) φ N (dC c s.env xs) (os.map a.eval)/\mg (az s) s.H.length (dC c s.env xs):=by
  intro os xs hk;obtain⟨e1,e2⟩:=vJ (cA:=hU c) h rfl hk;obtain⟨hl,hr⟩:=pY (a:=a) he hg hk;rw[e1,jy] at hl;refine⟨⟨by simpa using hl,fun i x v hx hv=>?_⟩,e2⟩;refine hr i (gL N x) v (by rw[e1,qt,hx]; rfl) (by simpa using hv)
 cases kd<;>simp only[qM,reduceCtorEq] at ha
 case call f' ys=>
  simp only[af,aC] at ha;obtain⟨rfl,rfl⟩:=ha;obtain⟨ca,fh,HP,oX⟩:=aft hk;obtain⟨e1,e2⟩:=afb oX;refine⟨ca.args.map a.eval,?_,e1,e2⟩;simp only[execOp,fh,resolve,HP,Act.eval,Deferred.ofValue,invoke,Sem.run_bind,Sem.run_pure,Result.andThen_ok,Array.empty_append,Array.append_empty];exact BG dm hf _
 case jC y ys=>
  obtain⟨ca,x,fh,HP,hx,oX⟩:=ab4 hk;have ho:=cJ (c:=c) (cA:=hU c) h rfl hx;have rx:=bZ (a:=a) he hg hx;rw[ho.ev] at rx;have MX:=ho.ok;cases e:bp c s.env y<;>rw[e] at ha rx MX<;>try (simp at ha; done)
  rename_i fn as bs;cases fn<;>simp only[reduceCtorEq] at ha
  rename_i f';split at ha
  ·cases ha
  rename_i iv;simp only[dT,not_or,Bool.not_eq_true] at iv;simp only[af,aC] at ha;obtain⟨rfl,rfl⟩:=ha;obtain⟨e1,e2⟩:=afb oX;simp only[gL,cS] at rx;simp only[cP] at MX;generalize Vb:a.eval x=ax at rx;rcases rx.zW with⟨hy,va,vb,rfl,CW,CV,hra,hrb⟩|⟨_,_,e9,_⟩
  case inr=>cases e9
  ·rw[dQ] at CW CV;have c1:QS (Rd X φ w) φ N as va:=⟨CW,fun i x v hx hv=>hra i _ v (by rw[<-mQ N iv.1,qt,hx]; rfl) hv⟩;have c3:QS (Rd X φ w) φ N bs vb:=⟨CV,fun i x v hx hv=>hrb i _ v (by rw[<-mQ N iv.2,qt,hx]; rfl) hv⟩;refine⟨va++ca.args.map a.eval++vb,?_,(c1.append e1).append c3,tx (tx MX.1 e2) MX.2.1⟩;simp only[execOp,fh,resolve,HP,Vb,Deferred.ofValue,invoke,Sem.run_bind,Sem.run_pure,Result.andThen_ok];exact BG dm hf _
mutual
theorem aaf {R:Addr->Value->Prop} {φ:dj} (N:Names):∀(x:AV) {v:Value},bO R φ (cS N x) v->bO R φ (cS N (nob x)) v
 |.dP k p off n,v,r=>by
   unfold nob;split
   ·rename_i h; subst h;simp only[cS] at r ⊢;split at r
    ·cases r with
     |sl _ _ _ _ _ a cap hb hc h=>exact .yd _ _ _ _ _ _ (fun _ _=>undef) rfl hc (fun x hx=>by simp at hx) (fun i j x c hx=>by simp at hx) (fun i j x c hx=>by simp at hx)
    ·cases r; exact .lx _ _
   ·exact r
 |.agg cs,v,r=>by
   simp only[nob,cS] at r ⊢;cases r with
   |agg _ _ vs hl h=>
     obtain⟨l1,l2⟩:=KL (R:=R) (φ:=φ) N cs;refine .agg _ _ _ (by rw[dQ,l1,<-dQ N cs]; exact hl) fun i c u hc hu=>?_;rw[oB] at hc;cases e:(Eg cs)[i]? with
     |none=>rw[e] at hc; cases hc
     |some y=>
       rw[e] at hc;simp only[cD,af] at hc;subst hc;obtain⟨x,hx⟩:=bq (l:=cs) (i:=i) (by have:=ak e; omega);exact l2 i x y u hx e (h i _ u (by rw[oB,hx]; rfl) hu)
 |.any,v,r=>r|.undef,v,r=>r|.fN,v,r=>r|.fS,v,r=>r|.du,v,r=>r
 |.int _ _,v,r=>r|.bool _,v,r=>r|.str _,v,r=>r|.dt _,v,r=>r
 |.list _ _,v,r=>r|.dy _,v,r=>r|.ptr _ _,v,r=>r|.sl _ _ _ _,v,r=>r
 |.func _ _ _,v,r=>r|.own _ _,v,r=>r|.fv _ _ _ _,v,r=>r
theorem KL {R:Addr->Value->Prop} {φ:dj} (N:Names):∀(cs:List AV),(Eg cs).length=cs.length/\∀ (i:Nat) (x y:AV) (v:Value),cs[i]?=some x->(Eg cs)[i]?=some y->bO R φ (cS N x) v->bO R φ (cS N y) v
 |[]=>⟨rfl,fun i x y v hx=>by simp at hx⟩
 |c::r=>by
   obtain⟨l1,l2⟩:=KL (R:=R) (φ:=φ) N r;refine⟨by simp[Eg,l1],fun i x y v hx hy rr=>?_⟩;cases i with
   |zero=>simp[Eg] at hx hy; subst hx; subst hy; exact aaf N c rr
   |succ i=>exact l2 i x y v (by simpa using hx) (by simpa[Eg] using hy) rr
end
theorem ad8 {R:Addr->Value->Prop} {φ:dj} (N:Names) (x:AV) {v:Value} (r:bO R φ (gL N x) v):bO R φ (gL N (nob x)) v:=by
 by_cases h:∃k xs,x=.own k xs
 ·obtain⟨k,xs,rfl⟩:=h;simpa[nob] using r
 ·have e1:gL N x=cS N x:=by cases x<;>first|rfl|exact absurd ⟨_,_,rfl⟩ h
  have e2:gL N (nob x)=cS N (nob x):=by
   cases x<;>simp only[nob]<;>first|rfl|exact absurd ⟨_,_,rfl⟩ h|(split<;>rfl)
  rw[e2];rw[e1] at r;exact aaf N x r
mutual
theorem akH {o:Rt->Option (Nat × List AV)} {nb:Nat}:∀(x:AV),cP o nb x->cP o nb (nob x)
 |.dP k p off n,h=>by
   unfold nob;split
   ·trivial
   ·exact h
 |.agg cs,h=>by
   simp only[nob,cP] at h ⊢;exact PY cs h
 |.any,h=>h|.undef,h=>h|.fN,h=>h|.fS,h=>h|.du,h=>h
 |.int _ _,h=>h|.bool _,h=>h|.str _,h=>h|.dt _,h=>h
 |.list _ _,h=>h|.dy _,h=>h|.ptr _ _,h=>h|.sl _ _ _ _,h=>h
 |.func _ _ _,h=>h|.own _ _,h=>h|.fv _ _ _ _,h=>h
theorem PY {o:Rt->Option (Nat × List AV)} {nb:Nat}:∀(cs:List AV),mg o nb cs->mg o nb (Eg cs)
 |[],_=>trivial
 |x::r,h=>⟨akH x h.1,PY r h.2⟩
end
theorem Sw:∀(cs:List AV) (i:Nat),(Eg cs)[i]?=(cs[i]?).map nob
 |[],i=>by simp[Eg]
 |x::r,i=>by cases i<;>simp[Eg,Sw r]
theorem C3 (dm:fj P c) (h:eW X φ w N s Ha (tm a)) (hg:Am.dX (hU c) X φ w) (hk:cX P o.op (mV kd)=true) {f:Nat} {args:List AV} (ha:getArgs c s.env kd=some (f,args)) {md:Md} {q:fW} (hf:c.fn f=some (md,q)) :
  ∃ vargs:Array Value,(execOp a.eval o).run P w=.ok (.enter f vargs) w/\QS (Rd X φ w) φ N args vargs/\mg (az s) s.H.length args:=by
 unfold getArgs at ha;cases h0:qM c s.env kd with
 |none=>rw[h0] at ha; cases ha
 |some z=>
   obtain⟨f0,ai6⟩:=z;rw[h0] at ha;simp only[af,aC] at ha;obtain⟨rfl,rfl⟩:=ha;obtain⟨vargs,h1,h2,h3⟩:=nV dm h hg hk h0 hf;refine⟨vargs,h1,?_⟩;split
   ·refine⟨⟨?_,fun i x v hx hv=>?_⟩,PY _ h3⟩
    ·have l1:=(KL (R:=Rd X φ w) (φ:=φ) N ai6).1;rw[l1]; exact h2.1
    ·rw[Sw] at hx;cases e:ai6[i]? with
     |none=>rw[e] at hx; cases hx
     |some y=>
       rw[e] at hx;simp only[cD,af] at hx;subst hx;exact ad8 N y (h2.2 i y v e hv)
   ·exact⟨h2,h3⟩
theorem yO (N:Names) (i:Nat) {x:AV} (h:pl x=true):lT N i x=x:=by
 by_cases ha:∃cs,x=.agg cs
 ·obtain⟨cs,rfl⟩:=ha;simp only[lT];simp only[pl] at h;congr 1;apply dN;intro j;rw[gb];cases hc:cs[j]? with
  |none=>rfl
  |some d=>
    simp only[cD]
    have hd:pl d=true:=by
     have:∀{l:List AV},dq l=true->∀z∈l,pl z=true:=by
      intro l
      induction l with
      |nil=>intro _ z hz; simp at hz
      |cons y r ih=>
        intro h z hz;simp only[dq,ae] at h;rcases aG.1 hz with e|e
        ·subst e; exact h.1
        ·exact ih h.2 z e
     exact this h d (bn hc)
    congr 1;cases d<;>first|exact l9 N _ hd|(simp[pl] at hd; done)
 ·have hn:kh x:=fun cs e=>ha ⟨cs,e⟩;cases x<;>first|exact l9 N _ h|exact absurd rfl (hn _)|(simp[pl] at h; done)
theorem SB.start {args:List AV} {vargs:Array Value} (hx:∀g,X g->g<w.heap.size) (hp:dq args=true) (hl:args.length=vargs.size) (hr:∀(i:Nat) (x:AV) (v:Value),args[i]?=some x->vargs[i]?=some v->bO (Rd X [] w) [] x v) (B:Nat->Nat) :
  SB X [] w B 0 ⟨dH 0 args,[]⟩ (fun i=>vargs.getD i undef):=by
 have BU:∀i,get (dH 0 args) i=args[i]?.getD .any:=fun i=>by rw[sZ]; simp
 have oi:∀i,pl (get (dH 0 args) i)=true:=fun i=>by
  rw[BU];cases e:args[i]? with
  |none=>rfl
  |some x=>exact fR hp i x e
 have iv:∀p,az ⟨dH 0 args,[]⟩ p=none:=by
  intro p;cases p with
  |s i=>exact (dR (s:=⟨dH 0 args,[]⟩) (tr (oi i))).1
  |sc i j=>exact (dR (s:=⟨dH 0 args,[]⟩) (tr (oi i))).2 j
  |c b j=>unfold az; simp[at_,aJ]
 refine⟨⟨fun _=>0,fun _=>none⟩,[],⟨fun i=>?_,fun i=>vK _ (oi i),⟨rfl,hx,fun b cs hb=>by simp at hb,fun b hb=>by simp at hb,fun b b' g sz pg h1=>by simp at h1⟩,fun p k xs e=>?_,fun b cs e=>?_,fun p q n e1=>?_,fun b p e1=>?_,fun b d e1=>?_⟩,fun b hb=>by omega,jN _⟩
 ·rw[yO _ _ (oi i),BU];cases e:args[i]? with
  |none=>exact .any _ _
  |some x=>
    obtain⟨v,hv⟩:=bX (l:=vargs) (i:=i) (by have:=ak e; omega);simp only[dY];rw[bh,hv];exact hr i x v e hv
 ·rw[iv] at e; cases e
 ·simp[aJ] at e
 ·rw[iv] at e1; cases e1
 ·simp[aJ] at e1
 ·simp[aJ] at e1
end
end Go.Bm

/- Calls of functions that see no boxes: what comes back. -/
namespace Go.Bm
open Go.Am
mutual
theorem F2 {R R':Addr->Value->Prop} {φ φ':dj} {N N':Names}:∀x,clean x=true->∀v,bO R φ (cS N x) v->bO R' φ' (cS N' x) v
 |.list k xs,h,v,r=>by
   simp only[clean,fy] at h;subst h;simp only[cS] at r ⊢;cases r with
   |yd _ _ _ a n cap u hn iC hk hu hh=>subst hn; exact .yd _ _ _ _ _ _ u rfl iC hk (fun i j x c hx=>by simp at hx) (fun i j x c hx=>by simp at hx)
   |lx=>exact .lx _ _
 |.agg cs,h,v,r=>by
   simp only[clean] at h;simp only[cS] at r ⊢;cases r with
   |agg _ _ vs hl hh=>exact .agg _ _ _ (by rw[dQ] at hl ⊢; exact hl) (fun i d u hd hu=>C5 cs h i d u hd (fun z hz=>hh i z u hz hu))
 |.dt cs,h,v,r=>by
   simp only[clean] at h;simp only[cS] at r ⊢;cases r with
   |dt _ _ vs hl hh=>exact .dt _ _ _ (by rw[dQ] at hl ⊢; exact hl) (fun i d u hd hu=>C5 cs h i d u hd (fun z hz=>hh i z u hz hu))
 |.own _ _,_,v,_=>.any _ _
 |.dy _,h,_,_=>by simp[clean] at h
 |.any,h,_,_=>by simp[clean] at h
 |.func _ _ _,h,_,_=>by simp[clean] at h
 |.dP _ _ _ _,h,_,_=>by simp[clean] at h
 |.fv _ _ _ _,h,_,_=>by simp[clean] at h
 |.ptr _ _,h,_,_=>by simp[clean] at h
 |.sl _ _ _ _,h,_,_=>by simp[clean] at h
 |.undef,_,v,r=>by simp only[cS] at r ⊢; cases r; exact .undef _
 |.fN,_,v,r=>by simp only[cS] at r ⊢; cases r; exact .fN _
 |.fS,_,v,r=>by simp only[cS] at r ⊢; cases r; exact .fS _
 |.du,_,v,r=>by simp only[cS] at r ⊢; cases r; exact .du _
 |.int _ _,_,v,r=>by simp only[cS] at r ⊢; cases r; exact .int _ _ _
 |.bool _,_,v,r=>by simp only[cS] at r ⊢; cases r; exact .bool _ _
 |.str _,_,v,r=>by simp only[cS] at r ⊢; cases r; exact .str _ _
theorem C5 {R R':Addr->Value->Prop} {φ φ':dj} {N N':Names}:∀cs,im cs=true->∀(i:Nat) (d:AV) (u:Value),(mR N' cs)[i]?=some d->(∀z,(mR N cs)[i]?=some z->bO R φ z u)->bO R' φ' d u
 |[],_,i,d,u,h,_=>by simp[mR] at h
 |x::r,hc,i,d,u,h,hz=>by
   simp only[im,ae] at hc;cases i with
   |zero=>simp[mR] at h hz; subst h; exact F2 x hc.1 u hz
   |succ i=>simp[mR] at h hz; exact C5 r hc.2 i d u h hz
end
mutual
theorem Ux {o:Rt->Option (Nat × List AV)} {nb:Nat}:∀x,clean x=true->cP o nb x
 |.list _ _,_=>trivial
 |.agg cs,h=>by simp only[clean] at h; exact F3 cs h
 |.dt cs,h=>by simp only[clean] at h; exact F3 cs h
 |.own _ _,_=>trivial
 |.dy _,h=>by simp[clean] at h
 |.any,h=>by simp[clean] at h
 |.func _ _ _,h=>by simp[clean] at h
 |.dP _ _ _ _,h=>by simp[clean] at h
 |.fv _ _ _ _,h=>by simp[clean] at h
 |.ptr _ _,h=>by simp[clean] at h
 |.sl _ _ _ _,h=>by simp[clean] at h
 |.undef,_=>trivial
 |.fN,_=>trivial
 |.fS,_=>trivial
 |.du,_=>trivial
 |.int _ _,_=>trivial
 |.bool _,_=>trivial
 |.str _,_=>trivial
theorem F3 {o:Rt->Option (Nat × List AV)} {nb:Nat}:∀cs,im cs=true->mg o nb cs
 |[],_=>trivial
 |x::r,h=>by simp only[im,ae] at h; exact⟨Ux x h.1,F3 r h.2⟩
end
theorem Uy {x:AV} (h:clean x=true):∀d∈x.cells,clean d=true:=by
 have all:∀{l:List AV},im l=true->∀z∈l,clean z=true:=by
  intro l
  induction l with
  |nil=>intro _ z hz; simp at hz
  |cons y r ih=>
    intro h z hz;simp only[im,ae] at h;rcases aG.1 hz with e|e
    ·subst e; exact h.1
    ·exact ih h.2 z e
 intro d hd;by_cases ha:∃cs,x=.agg cs
 ·obtain⟨cs,rfl⟩:=ha;simp only[clean] at h;exact all h d hd
 ·have:x.cells=[x]:=by cases x<;>first|rfl|exact absurd ⟨_,rfl⟩ ha
  rw[this] at hd;simp at hd;subst hd;exact h
theorem Xd {l:List AV} (h:im l=true):∀z∈l,clean z=true:=by
 induction l with
 |nil=>intro z hz; simp at hz
 |cons y r ih=>
   intro z hz;simp only[im,ae] at h;rcases aG.1 hz with e|e
   ·subst e; exact h.1
   ·exact ih h.2 z e
theorem AA (N:Names) (i:Nat) {x:AV} (h:bV x=false):lT N i x=cS N x:=by
 by_cases ha:∃cs,x=.agg cs
 ·obtain⟨cs,rfl⟩:=ha;simp only[bV] at h;simp only[lT,cS];congr 1;apply dN;intro j;rw[gb,oB];cases hc:cs[j]? with
  |none=>rfl
  |some d=>
    simp only[cD];congr 1;have:=HR h d (bn hc);cases d<;>first|rfl|exact absurd rfl (this _ _)
 ·cases x<;>first|rfl|exact absurd ⟨_,rfl⟩ ha|(simp[bV] at h; done)
section
variable {P:Program} {X:Nat->Prop} {φ lV φ':dj} {w w1 w':World} {N N1 N':Names} {s s' s1:St} {Ha H1 Ha':Heap} {t t1 t':Nat->Value} {B:Nat->Nat} {base:Nat} {v va:AV} {v':Value} {c:eI} {o:Oper} {a:Act} {kd:Kd} {call:Nat->List AV->Heap->Option (AV × Heap)}
theorem amR (h:eW X φ w N s Ha t) (hb:(∀b,b<base->N.β b=B b)/\base<=s.H.length) (ad:fg [] w lV w1) {k:Nat} {xs:List AV} {H':Heap} (h1:eW X lV w1 N1 ⟨[(0,.own k xs)],H'⟩ H1 t1) (hc:im xs=true) :
  ∃ φ',dU X φ' w1 B base s (.own k xs) t (t1 0)/\fg φ w φ' w1:=by
 have ho1:az ⟨[(0,.own k xs)],H'⟩ (.s 0)=some (k,xs):=rfl;have eU:=h1.own (.s 0) k xs ho1;have hr:=h1.env 0;simp only[Am.get,if_true,lT,jx,rU] at hr;cases hn:N1.ν (.s 0) with
 |none=>
   rw[hn] at eU hr;have hx:xs=[]:=eU;subst hx;refine⟨φ,dU.quiet (h.nZ (.of_same ad) (h.heap.of_same ad) h.own (fun _ _=>rfl)) hb trivial (by simp[EO]) ?_,.of_same ad⟩;simp only at hr;simp only[yE];generalize t1 0=z at hr ⊢;cases hr;exact .du _
 |some n1=>
   rw[hn] at eU hr;simp only at hr;obtain⟨g,sz,jK,hX,iS⟩:=sV h1.heap eU;obtain⟨cs,c1,c2,c3,c4⟩:=eU;obtain⟨g',pg,arr,e,f1,f2,f3,f4,f5,f6⟩:=h1.heap.cat c1 (fun g sz q=>hr.yR q);rw[jK] at f1;cases f1;have hgs:w.heap.size<=g:=Nat.le_of_not_lt fun bF=>(ad.keep g bF (bQ.nil g)).2 ⟨n1,sz,jK⟩;have hfl:=gN c3
   have nZ:fg φ w (φ++[some (g,sz)]) w1:=by
    refine⟨ad.os,ad.tape,ad.output,ad.drawn,ad.size,fun g0 bF iv=>⟨(ad.keep g0 bF (bQ.nil g0)).1,fun ho=>?_⟩,⟨by simp,fun b p hb hp=>by rwa [aq hb] at hp⟩⟩;rcases sM ho with h2|h2
    ·exact iv h2
    ·simp at h2; omega
   have hh:cj X (φ++[some (g,sz)]) w1 (Ha++[some (aA xs)]):=by
    refine⟨by simp[h.heap.len],fun g0 hg0=>eY (h.heap.Gg g0 hg0) ad.size,fun b ds mO=>?_,fun b mO=>?_,fun b b' g0 sJ sz1 e1 e2=>?_⟩
    ·by_cases bF:b<Ha.length
     ·rw[aq bF] at mO;obtain⟨g0,sJ,UH,e0,p1,p2,p3,p4,p5,p6⟩:=h.heap.live b ds mO;refine⟨g0,sJ,UH,e0,by rw[aq (by rw[h.heap.len]; exact bF)]; exact p1,?_,p3,p4,p5,fun i d hd=>?_⟩
      ·rw[(ad.keep g0 (dV.1 p2).1 (bQ.nil g0)).1]; exact p2
      ·obtain⟨u,u1,u2⟩:=p6 i d hd;exact⟨u,u1,nZ.rep u2⟩
     ·have Lr:b=Ha.length:=by have:=ak mO; simp at this; omega
      subst Lr;simp at mO;subst mO;refine⟨g,sz,arr,_,by rw[<-h.heap.len]; simp,f2,.inl ⟨e,rfl,f3⟩,⟨by omega,fun z=>by omega⟩,hX,fun i d hd=>?_⟩;obtain⟨i',z,j,z1,z2,z3⟩:=(fx c3).2 i d hd;obtain⟨u,u1,u2,u3⟩:=iS i' j z d z1 z2;refine⟨u,by rw[gg f2] at u1; rw[z3]; exact u1,?_⟩;have II:=Uy (Xd hc z (bn z1)) d (bn z2);have oi:=(mh u2).1;have:=F2 (N:=N) (N':=N) (R':=Rd X (φ++[some (g,sz)]) w1) (φ':=φ++[some (g,sz)]) d II u (by rw[l9 N _ oi]; exact u3)
      rwa [l9 N _ oi] at this
    ·by_cases bF:b<Ha.length
     ·rw[aq bF] at mO;rw[aq (by rw[h.heap.len]; exact bF)];exact h.heap.dead b mO
     ·have Lr:b=Ha.length:=by have:=ak mO; simp at this; omega
      subst Lr;simp at mO
    ·have new:∀(b g0 sJ:Nat),(φ++[some (g,sz)])[b]?=some (some (g0,sJ))->(b<φ.length/\φ[b]?=some (some (g0,sJ))/\g0<w.heap.size)\/(b=φ.length/\g0=g):=by
      intro b g0 sJ hb;by_cases bF:b<φ.length
      ·rw[aq bF] at hb;exact .inl ⟨bF,hb,(h.heap.gJ ⟨b,sJ,hb⟩).1⟩
      ·have iE:=ak hb;simp at iE;have Lr:b=φ.length:=by omega
       subst Lr;simp at hb;exact .inr ⟨rfl,hb.1.symm⟩
     rcases new b g0 sJ e1 with⟨l1,q1,g1⟩|⟨l1,g1⟩<;>rcases new b' g0 sz1 e2 with⟨l2,q2,g2⟩|⟨l2,g2⟩
     ·exact h.heap.inj b b' g0 sJ sz1 q1 q2
     ·omega
     ·omega
     ·omega
   refine⟨φ++[some (g,sz)],EH h hb nZ hh (by omega) c3 (fun i d hd=>?_) ?_,nZ⟩
   ·obtain⟨i',z,j,z1,z2,z3⟩:=(fx c3).2 i d hd;obtain⟨u,u1,u2,u3⟩:=iS i' j z d z1 z2;exact⟨u2,d,hd,(mh u2).2,Le.refl _⟩
   ·generalize t1 0=z at hr;cases hr with
    |sl _ _ _ _ _ ad' cap iE iC hh'=>
      refine .sl _ _ _ _ _ _ _ (by simp[h.heap.len]) iC fun g0 sJ e0=>?_;rw[<-h.heap.len] at e0;simp at e0;obtain⟨rfl,rfl⟩:=e0;exact hh' g sz jK
theorem WJ {X':Nat->Prop} (hg:Am.dX (hU c) X φ w) (hx:∀g,X' g->X g\/bQ φ g):Am.dX (hU c) X' [] w:=fun g=>(hg g).mono (fun a u ⟨h1,h2,h3⟩=>⟨fun h=>(hx _ h).elim h1 h2,bQ.nil _,h3⟩) (.refl _)
theorem V3 (dm:fj P c) (dW:iw P c call) (h:SB X φ w B base s (tm a)) (hg:Am.dX (hU c) X φ w) (hk:cX P o.op (mV kd)=true) {f:Nat} {args uH:List AV} (ha:getArgs c s.env kd=some (f,args)) {md:Md} {q:fW} (hf:c.fn f=some (md,q)) (jz:md.sh=false) (hz:wY s args=some uH) {r:AV} {H':Heap} (hc:call f uH []=some (r,H')) (hr:Su r=true):nh P X φ w B base s r o a:=by
 obtain⟨N,Ha,h,hb⟩:=h;obtain⟨vargs,oW,hA,Bt⟩:=C3 dm h hg hk ha hf;obtain⟨z1,z2,z3⟩:=LF h args uH hz Bt
 have MB:=SB.start (X:=X) (w:=w) (args:=uH) (vargs:=vargs) h.heap.Gg z1 (by rw[z2]; exact hA.1) (fun i x v hx hv=>z3 i x v hx (fun z hz=>by
  rw[qt] at hz;cases Lt:args[i]? with
  |none=>rw[Lt] at hz; cases hz
  |some y=>rw[Lt] at hz; simp at hz; subst hz; exact hA.2 i y v Lt hv)) (fun _=>0)
 have jL:=dW f md q hf uH [] r H' (.inr rfl) hc (fun e=>by rw[jz] at e; cases e) X [] w (fun _=>0) vargs (by rw[z2]; exact hA.1) MB (WJ hg fun g h=>.inl h);intro K Q hK;unfold Oper.wp;rw[oW,Oper.upon_enter];refine jL.mono ?_;rintro e w1 ⟨v',lV,rfl,⟨N1,H1,fY,_⟩,ad⟩;unfold Su at hr;simp only[ae] at hr;by_cases ho:∃k xs,r=.own k xs
 ·obtain⟨k,xs,rfl⟩:=ho;obtain⟨φ',hp,ad'⟩:=amR h hb ad fY (by simpa[clean] using hr.1);exact hK v' w1 φ' (by simpa using hp) ad'
 ·have iv:bV r=false:=by
   have:=hr.2;cases r<;>first|exact absurd ⟨_,_,rfl⟩ ho|simpa using this
  refine hK v' w1 φ (dU.quiet (h.nZ (.of_same ad) (h.heap.of_same ad) h.own (fun _ _=>rfl)) hb (Ux r hr.1) (nU iv) ?_) (.of_same ad);have r0:=fY.env 0;simp only[Am.get,if_true] at r0;rw[AA N1 0 iv] at r0;rw[nq N iv];exact F2 r hr.1 v' r0
theorem V2 (dm:fj P c) (dW:iw P c call) (h:SB X φ w B base s (tm a)) (hg:Am.dX (hU c) X φ w) (hk:cX P o.op (mV kd)=true) {f:Nat} {args:List AV} (ha:getArgs c s.env kd=some (f,args)) {md:Md} {q:fW} (hf:c.fn f=some (md,q)) (jz:md.sh=false) (hz:dq (args.map eK)=true) {r:AV} {H':Heap} (hc:call f (args.map eK) []=some (r,H')) (hr:pl r=true):nh P X φ w B base s r o a:=by
 obtain⟨N,Ha,h,hb⟩:=h;obtain⟨vargs,oW,hA,Bt⟩:=C3 dm h hg hk ha hf;have wO:∀a u,Rd X φ w a u->Rd (fun g=>X g\/bQ φ g) [] w a u:=fun a u ⟨h1,h2,h3⟩=>⟨fun h=>h.elim h1 h2,bQ.nil _,h3⟩
 have MB:=SB.start (X:=fun g=>X g\/bQ φ g) (w:=w) (args:=args.map eK) (vargs:=vargs) (fun g hg=>hg.elim (h.heap.Gg g) (fun ho=>(h.heap.gJ ho).1)) hz (by simpa using hA.1) (fun i x v hx hv=>by
  rw[cn] at hx;cases Lt:args[i]? with
  |none=>rw[Lt] at hx; cases hx
  |some y=>
    rw[Lt] at hx;simp at hx;subst hx;have r0:=hA.2 i y v Lt hv;have hpy:=fR hz i (eK y) (by rw[cn,Lt]; rfl);by_cases ho:∃k,y=.own k []
    ·obtain⟨k,rfl⟩:=ho;simp only[gL] at r0;cases r0;exact .lx _ _
    ·have hn:eK y=y:=by
      unfold eK;split
      ·rename_i k; exact absurd ⟨k,rfl⟩ ho
      ·rfl
     rw[hn] at hpy ⊢;have hy:gL N y=y:=by cases y<;>first|exact l9 N _ hpy|(simp[pl] at hpy; done)
     rw[hy] at r0;exact (r0.dD (fQ _ hpy) []).mono wO (.refl _)) (fun _=>0)
 have jL:=dW f md q hf (args.map eK) [] r H' (.inr rfl) hc (fun e=>by rw[jz] at e; cases e) (fun g=>X g\/bQ φ g) [] w (fun _=>0) vargs (by simpa using hA.1) MB (WJ hg fun g h=>h);intro K Q hK;unfold Oper.wp;rw[oW,Oper.upon_enter];refine jL.mono ?_;rintro e w1 ⟨v',lV,rfl,⟨N1,H1,fY,_⟩,ad⟩;have iv:=tr hr;refine hK v' w1 φ (dU.quiet (h.nZ (.of_same ad) (h.heap.of_same ad) h.own (fun _ _=>rfl)) hb (vK r hr) (nU iv) ?_) (.of_same ad);have r0:=fY.env 0;simp only[Am.get,if_true] at r0;rw[yO N1 0 hr] at r0;rw[nq N iv,l9 N _ hr];exact ((r0.dD (fQ _ hr) []).mono (fun a u ⟨h1,_,h3⟩=>⟨fun h=>h1 (.inl h),fun h=>h1 (.inr h),h3⟩) (.refl _)).HH φ
end
end Go.Bm

/- Regions in the order of the text; their ends. -/
namespace Go.Bm
open Go.Am
section
variable {P:Program} {X:Nat->Prop} {φ lV φ':dj} {w w1 w':World} {N1 N':Names} {s s' s1:St} {B:Nat->Nat} {base:Nat} {v va:AV} {v':Value} {c:eI} {o:Oper} {a:Act} {kd:Kd} {call:Nat->List AV->Heap->Option (AV × Heap)}
structure E0 (X:Nat->Prop) (φ:dj) (w:World) (B:Nat->Nat) (base:Nat) (s:St) (a:Act) (N:Nat):Prop where
 sb:SB X φ w B base s (tm a)
 defers:a.defers=[]
 size:a.tmps.size=N
theorem ajf {a:Act} {d:Option Nat} {v':Value} (hd:∀i,d=some i->i<a.tmps.size) (j:Nat):tm (a.put d v') j=if some j=d then v' else tm a j:=by
 cases d with
 |none=>simp[tm,Act.put]
 |some i=>
   have hi:=hd i rfl;simp only[tm,Act.put,bh];by_cases e:j=i
   ·subst e; simp[hi]
   ·simp[jd (jF e),e]
theorem E0.put {N:Nat} (h:E0 X φ w B base s a N) (hN:N<=fw) {d:Option Nat} (hd:∀i,d=some i->i<N) (hp:dU X φ' w' B base s1 v (tm a) v') (hs:BR s1 d v=some s'):∃qY,E0 X qY w' B base s' (a.put d v') N/\fg φ' w' qY w':=by
 obtain⟨qY,h1,a1⟩:=ags (t':=tm (a.put d v')) hp hs (fun e=>by have:=hd fw e; omega) (fun j=>ajf (fun i hi=>by rw[h.size]; exact hd i hi) j);obtain⟨h2,h3⟩:=adn a d v';exact⟨qY,⟨h1,by rw[h3]; exact h.defers,by rw[h2]; exact h.size⟩,a1⟩
theorem dU.undef (h:SB X φ w B base s (tm a)):dU X φ w B base s .undef (tm a) Go.undef:=by
 obtain⟨N,Ha,h,hb⟩:=h;exact dU.quiet h hb trivial trivial (.undef _)
theorem Ri {N:Nat} {ops:Array Oper} {q:O} {fl:Fq} (fh:∀v s1 f,fk c call s q.kd=some (v,s1,f)->nh P X φ w B base s1 v o a) (hc:QD P N ops o (Uo q)=true) (hN:N<=fw)
  (hs:uh c call s q=some (s',fl)) (hr:E0 X φ w B base s a N) {K:Act->World->Prop} {Q:Exit->Act->World->Prop} (hK:∀a' w' φ',E0 X φ' w' B base s' a' N->fg φ w φ' w'->K a' w') :
  if Region.wanted o (yielded ops a.tmps) then o.wp P a w K Q\/(o.asks P a w/\LetsOut Q) else K (a.put o.dst Go.undef) w:=by
 simp only[QD,Uo,ae,decide_eq_true_eq] at hc;obtain⟨⟨⟨amH,hd⟩,hgd⟩,_⟩:=hc;have hdst:o.dst=q.dst:=of_decide_eq_true amH
 have hd':∀i,o.dst=some i->i<N:=by
  intro i hi;rw[<-hdst,hi] at hd;simpa using hd
 have run:∀{v s1 f fl'},fk c call s q.kd=some (v,s1,f)->EK s.env q.dst v s1 f=some (s',fl')->o.wp P a w K Q:=by
  intro v s1 f fl' hv hf;unfold EK at hf;split at hf
  case h_2=>cases hf
  rename_i s2 hp;simp only[af,aC] at hf;obtain⟨rfl,_⟩:=hf;refine fh v s1 f hv K Q fun v' w' φ' wP ad=>?_;rw[<-hdst] at hp;obtain⟨qY,h1,a1⟩:=hr.put hN hd' wP hp;exact hK _ _ qY h1 (ad.trans a1)
 have no:∀{fl'},EK s.env q.dst .undef s .no=some (s',fl')->K (a.put o.dst Go.undef) w:=by
  intro fl' hf;unfold EK at hf;split at hf
  case h_2=>cases hf
  rename_i s2 hp;simp only[af,aC] at hf;obtain⟨rfl,_⟩:=hf;rw[<-hdst] at hp;obtain⟨qY,h1,a1⟩:=hr.put hN hd' (dU.undef hr.sb) hp;exact hK _ _ qY h1 a1
 have amz:∀(g:Nat),∃N1 Ha,bO (Rd X φ w) φ (lT N1 g (get s.env g)) (tm a g)/\eW X φ w N1 s Ha (tm a):=fun g=>by
  obtain⟨N1,Ha,h,_⟩:=hr.sb;exact⟨N1,Ha,h.env g,h⟩
 unfold uh at hs;split at hs
 ·rename_i hgn;rw[hgn] at hgd;split at hgd
  ·rename_i h1 _;rw[if_pos (by simp[Region.wanted,h1])];split at hs
   ·rename_i v s1 f hv;exact .inl (run hv hs)
   ·cases hs
  ·rename_i h2; simp at h2
  ·cases hgd
 ·rename_i g want hgn;rw[hgn] at hgd;split at hgd
  ·rename_i h2; simp at h2
  ·rename_i j aio g' amS h1 h2;simp only[ae,decide_eq_true_eq] at hgd;obtain⟨hj,rfl⟩:=hgd;simp at h2;obtain⟨rfl,rfl⟩:=h2;obtain⟨N1,Ha,Ln,_⟩:=amz g;split at hs
   ·rename_i b hb;rw[hb] at Ln;simp only[lT,jx,cS] at Ln;have hv:=oE Ln;have hy:yielded ops a.tmps j=some b:=by unfold yielded; rw[hj]; simp only[Option.bind_some]; rw[abV hv]
    by_cases WE:b=want
    ·subst WE;rw[if_pos (by simp[Region.wanted,h1,hy])];simp only[if_true] at hs;split at hs
     ·rename_i v s1 f hv;exact .inl (run hv hs)
     ·cases hs
    ·rw[if_neg (by simp[Region.wanted,h1,hy,WE])];rw[if_neg WE] at hs;exact no hs
   ·rename_i hb;rw[hb] at Ln;simp only[lT,jx,cS] at Ln;generalize hv:tm a g=vg at Ln;cases Ln
    have hy:yielded ops a.tmps j=none:=by
     unfold yielded;rw[hj];simp only[Option.bind_some];rcases WL hv with h|h<;>rw[h]
    rw[if_neg (by simp[Region.wanted,h1,hy])];exact no hs
   ·cases hs
  ·cases hgd
def Pk (P:Program) (c:eI) (call:Nat->List AV->Heap->Option (AV × Heap)):Prop:=
 ∀ X φ w B base s o a kd v s1 f,cX P o.op (mV kd)=true->fk c call s kd=some (v,s1,f)->SB X φ w B base s (tm a)->Am.dX (hU c) X φ w->nh P X φ w B base s1 v o a
theorem ZZ (FT:Pk P c call) {N:Nat} (hN:N<=fw) {ops:Array Oper} {Q:Exit->Act->World->Prop}:∀(l:List Oper) (qs:List O) (k:Nat) (s s':St) (rW:List Fq) (a:Act) (w:World) (φ:dj),
  (∀j,l[j]?=ops[k+j]?)->tK P N ops l qs=true->oQ c call qs s=some (s',rW)->E0 X φ w B base s a N->Am.dX (hU c) X φ w->(∀a' w' φ',E0 X φ' w' B base s' a' N->fg φ w φ' w'->Q .normal a' w') ->
  wpOps P ops Q (List.range' k l.length) a w
 |[],qs,k,s,s',rW,a,w,φ,_,hc,hs,hr,hg,hQ=>by
   cases qs with
   |nil=>
     simp[oQ] at hs;obtain⟨rfl,rfl⟩:=hs;exact hQ a w φ hr (.refl _ _)
   |cons q r=>simp[tK] at hc
 |o::l,qs,k,s,s',rW,a,w,φ,hl,hc,hs,hr,hg,hQ=>by
   cases qs with
   |nil=>simp[tK] at hc
   |cons q r=>
     simp only[tK,ae] at hc;simp only[oQ] at hs;split at hs
     case h_2=>cases hs
     rename_i s1 fl1 h1;split at hs
     case h_2=>cases hs
     rename_i s2 fl2 h2;simp at hs;obtain⟨rfl,rfl⟩:=hs;have h0:ops[k]?=some o:=by simpa using (hl 0).symm
     rw[cc,List.range'_succ,wpOps_cons];unfold wpOp;rw[h0]
     have ED:cX P o.op (mV q.kd)=true:=by
      have:=hc.1;simp only[QD,Uo,ae] at this;exact this.2
     refine Ri (fun v s1 f hv=>FT X φ w B base s o a q.kd v s1 f ED hv hr.sb hg) hc.1 hN h1 hr fun a' w' φ' ye k'=>?_;exact ZZ FT hN l r (k+1) s1 s2 fl2 a' w' φ' (fun j=>by have:=hl (j+1); simpa[Nat.add_assoc,Nat.add_comm 1 j] using this) hc.2 h2 ye (hg.nZ k') fun a'' w'' qY h'' AX=>hQ a'' w'' qY h'' (k'.trans AX)
theorem HS {keep:List Nat}:∀{e:Env},uB keep e=false->∀i,mem i keep=false->bV (get e i)=false
 |[],_,i,_=>rfl
 |(j,v)::r,h,i,hi=>by
   simp only[uB,fa] at h;simp only[Am.get];split
   ·rename_i e;subst e;rw[hi] at h;simpa using h.1
   ·exact HS h.2 i hi
theorem HT (keep:List Nat):∀(env:Env) (i:Nat),get (tC keep env) i=if mem i keep=true then get env i else .any
 |[],i=>by simp[tC,Am.get]
 |(j,u)::r,i=>by
   have ih:=HT keep r i;unfold tC;split
   ·rename_i hm;simp only[Am.get];by_cases e:i=j
    ·subst e; simp[hm]
    ·rw[if_neg e,if_neg e]; exact ih
   ·rename_i hm;rw[ih];simp only[Am.get];by_cases e:i=j
    ·subst e; simp[hm]
    ·rw[if_neg e]
theorem aaW {t:Nat->Value} (h:SB X φ w B base s t) {keep:List Nat} (ho:uB keep s.env=false):SB X φ w B base (endK base keep s) t:=by
 obtain⟨N,Ha,h,hb,hl⟩:=h
 have h1:eW X φ w N ⟨tC keep s.env,s.H⟩ Ha t:=h.keep (fun i=>by
  rw[HT];cases hm:mem i keep with
  |true=>exact .inl (by simp)
  |false=>exact .inr ⟨by simp,HS ho i hm⟩) rfl
 refine⟨N,Ha,h1.trim (base0:=base) s.H.length,hb,?_⟩
 have len:∀(n:Nat) (H:Heap),base<=H.length->base<=(trim base (tC keep s.env) n H).length:=by
  intro n
  induction n with
  |zero=>intro H h; exact h
  |succ n ih=>
    intro H h;simp only[trim];split
    ·rename_i hc;exact ih _ (by simp; omega)
    ·exact h
 exact len _ _ hl
theorem ahB {t:Nat->Value} (h:SB X φ w B base s t) {keep:List Nat} (he:WW base keep s=some s'):∃φ',SB X φ' w B base s' t/\fg φ w φ' w:=by
 unfold WW at he;split at he
 ·split at he
  ·cases he
  rename_i ho;simp at he ho;subst he;obtain⟨lV,h1,a1⟩:=SB.qg keep s.env h;exact⟨lV,aaW h1 ho,a1⟩
 ·rename_i ho;simp at he ho;subst he;exact⟨φ,aaW h ho,.refl _ _⟩
end
end Go.Bm

/- A run of the compact code by value is a run of the dump's code. -/
namespace Go.Bm
open Go.Am
section
variable {P:Program} {c:eI}
def Mv (P:Program) (c:eI) (call:Nat->List AV->Heap->Option (AV × Heap)):Prop:=
 ∀ X φ w B base s s' rW a N id ops os un (Q:Exit->Act->World->Prop),N<=fw->tK P N ops ops.toList os=true->pZ un [] [] ops.toList os=true->oQ c call os s=some (s',rW)->OS os rW un=true->E0 X φ w B base s a N->Am.dX (hU c) X φ w ->
  (∀a' w' φ',E0 X φ' w' B base s' a' N->fg φ w φ' w'->Q .normal a' w')->(Code.region id ops true).wp P Q a w
def UQ (P:Program) (c:eI) (n:Nat):Prop:=∀(N base:Nat) (code:Code) (cd:C) (s s':St) (e:Ex),N<=fw->M8 P N code cd=true->cW c n base cd s=some (e,s')->∀X φ w B a,E0 X φ w B base s a N->Am.dX (hU c) X φ w ->
 ∀ Q:Exit->Act->World->Prop,(∀a' w' φ',E0 X φ' w' B base s' a' N->fg φ w φ' w'->Q e.to a' w')->code.wp P Q a w
theorem I9 (H1:∀call,iw P c call->Pk P c call) (H2:∀call,iw P c call->Mv P c call) (H3:∀n,UQ P c n->iw P c (o9 c (cW c n))):∀n,UQ P c n
 |0=>fun N base code cd s s' e _ _ h=>by simp[cW] at h
 |n+1=>by
   have ih:=I9 H1 H2 H3 n;have dW:=H3 n ih;intro N base code cd s s' e hN hc h X φ w B a hr hg Q hQ;unfold M8 at hc;split at hc
   case h_1=>simp[cW] at h; obtain⟨rfl,rfl⟩:=h; exact wp_skip (hQ a w φ hr (.refl _ _))
   case h_2=>simp[cW] at h; obtain⟨rfl,rfl⟩:=h; exact wp_ret (hQ a w φ hr (.refl _ _))
   case h_3=>
    simp only[decide_eq_true_eq] at hc;subst hc;simp[cW] at h; obtain⟨rfl,rfl⟩:=h; exact wp_exit (hQ a w φ hr (.refl _ _))
   case h_4=>
    rename_i id ops d os dr un keep;simp only[ae,decide_eq_true_eq] at hc;obtain⟨⟨rfl,dI⟩,ho⟩:=hc;simp only[cW] at h;split at h
    case h_2=>cases h
    rename_i s1 rW hs;split at h
    case isFalse=>cases h
    rename_i hd;split at h
    case h_2=>cases h
    rename_i s2 he;simp at h;obtain⟨rfl,rfl⟩:=h
    have hQ':∀a' w' φ',E0 X φ' w' B base s1 a' N->fg φ w φ' w'->Q .normal a' w':=fun a' w' φ' h k=>by
     obtain⟨qY,h2,a2⟩:=ahB h.sb he;exact hQ a' w' qY ⟨h2,h.defers,h.size⟩ (k.trans a2)
    cases d with
    |false=>
      refine wp_region ?_;rw[List.range_eq_range',<-Array.length_toList];exact ZZ (H1 _ dW) hN ops.toList os 0 s s1 rW a w φ (fun j=>by simp) dI hs hr hg hQ'
    |true=>
      simp at ho;exact H2 _ dW X φ w B base s s1 rW a N id ops os un Q hN dI ho hs (by simpa using hd) hr hg hQ'
   case h_5=>
    rename_i x y cx cy;simp only[ae] at hc;simp only[cW] at h;refine wp_seq ?_;cases h1:cW c n base cx s with
    |none=>rw[h1] at h; cases h
    |some p=>
      obtain⟨e1,s1⟩:=p;rw[h1] at h;cases e1 with
      |normal=>
        simp only at h;exact ih N base x cx s s1 .normal hN hc.1 h1 X φ w B a hr hg _ fun a' w' φ' ye k=>ih N base y cy s1 s' e hN hc.2 h X φ' w' B a' ye (hg.nZ k) Q fun a'' w'' qY hr'' AX=>hQ a'' w'' qY hr'' (k.trans AX)
      |exit id=>simp at h; obtain⟨rfl,rfl⟩:=h; exact ih N base x cx s s1 _ hN hc.1 h1 X φ w B a hr hg _ fun a' w' φ' ye k=>hQ a' w' φ' ye k
      |ret=>simp at h; obtain⟨rfl,rfl⟩:=h; exact ih N base x cx s s1 _ hN hc.1 h1 X φ w B a hr hg _ fun a' w' φ' ye k=>hQ a' w' φ' ye k
   case h_6=>
    rename_i x ca cb y da db;simp only[ae] at hc;simp only[cW] at h;split at h
    case h_2=>cases h
    rename_i t ht
    have r:a.eval x=.bool t:=by
     obtain⟨N1,Ha,hsim,_⟩:=hr.sb;have ho:=cJ (c:=c) (cA:=hU c) hsim rfl hc.1.1;have:=bZ (c:=hU c) (env:=Dg N1 s.env) (a:=a) (fun i=>by rw[oY]; exact hsim.env i) hg hc.1.1;rw[ho.ev,ht] at this;exact oE this
    refine wp_cond (t:=t) r ?_;cases t with
    |true=>simp at h ⊢; exact ih N base ca da s s' e hN hc.1.2 h X φ w B a hr hg Q hQ
    |false=>simp at h ⊢; exact ih N base cb db s s' e hN hc.2 h X φ w B a hr hg Q hQ
   case h_7=>
    rename_i i b j x;simp only[ae,decide_eq_true_eq] at hc;obtain⟨rfl,hc⟩:=hc;simp only[cW] at h;refine wp_block ?_;cases h1:cW c n base x s with
    |none=>rw[h1] at h; cases h
    |some p=>
      obtain⟨e1,s1⟩:=p;rw[h1] at h;refine ih N base b x s s1 e1 hN hc h1 X φ w B a hr hg _ fun a' w' φ' ye k=>?_;cases e1 with
      |normal=>simp at h; obtain⟨rfl,rfl⟩:=h; exact hQ a' w' φ' ye k
      |ret=>simp at h; obtain⟨rfl,rfl⟩:=h; exact hQ a' w' φ' ye k
      |exit id=>
        simp only at h;split at h
        ·rename_i hid;simp at h; obtain⟨rfl,rfl⟩:=h;simp only[Ex.to,Exit.inBlock,hid,if_true];exact hQ a' w' φ' ye k
        ·rename_i hid;simp at h; obtain⟨rfl,rfl⟩:=h;simp only[Ex.to,Exit.inBlock,hid,if_false];exact hQ a' w' φ' ye k
   case h_8=>
    rename_i b x;simp only[cW] at h
    have key:∀m,m<=n->∀s a w φ,cW c m base (.loop x) s=some (e,s')->E0 X φ w B base s a N->Am.dX (hU c) X φ w->(∀a' w' φ',E0 X φ' w' B base s' a' N->fg φ w φ' w'->Q e.to a' w')->LW P b Q a w:=by
     intro m
     induction m with
     |zero=>intro _ s a w φ h; simp[cW] at h
     |succ m ihm=>
       intro hm s a w φ h hr hg hQ;simp only[cW] at h;refine LW.step ?_;have ihb:UQ P c m:=I9 H1 H2 H3 m;cases h1:cW c m base x s with
       |none=>rw[h1] at h; cases h
       |some p=>
         obtain⟨e1,s1⟩:=p;rw[h1] at h;refine ihb N base b x s s1 e1 hN hc h1 X φ w B a hr hg _ fun a' w' φ' ye k=>?_;cases e1 with
         |normal=>simp only at h; exact ihm (by omega) s1 a' w' φ' h ye (hg.nZ k) fun a'' w'' qY hr'' AX=>hQ a'' w'' qY hr'' (k.trans AX)
         |exit id=>simp at h; obtain⟨rfl,rfl⟩:=h; exact hQ a' w' φ' ye k
         |ret=>simp at h; obtain⟨rfl,rfl⟩:=h; exact hQ a' w' φ' ye k
    refine LW.loop (LW.step ?_);cases h1:cW c n base x s with
    |none=>rw[h1] at h; cases h
    |some p=>
      obtain⟨e1,s1⟩:=p;rw[h1] at h;refine ih N base b x s s1 e1 hN hc h1 X φ w B a hr hg _ fun a' w' φ' ye k=>?_;cases e1 with
      |normal=>simp only at h; exact key n (aO _) s1 a' w' φ' h ye (hg.nZ k) fun a'' w'' qY hr'' AX=>hQ a'' w'' qY hr'' (k.trans AX)
      |exit id=>simp at h; obtain⟨rfl,rfl⟩:=h; exact hQ a' w' φ' ye k
      |ret=>simp at h; obtain⟨rfl,rfl⟩:=h; exact hQ a' w' φ' ye k
   case h_9=>simp[cW] at h; obtain⟨rfl,rfl⟩:=h; exact wp_label (hQ a w φ hr (.refl _ _))
   case h_10=>
    rename_i b x;simp only[cW] at h;cases n with
    |zero=>simp[cW] at h
    |succ n'=>
      rw[show cW c (n'+1) base .skip s=some (.normal,s) from rfl] at h;simp only at h;refine wp_scope_straight (ih N base b x s s' e hN hc h X φ w B a hr hg _ fun a' w' φ' ye k=>?_);have hq:=hQ a' w' φ' ye k;cases e<;>exact hq
   case h_11=>cases hc
end
end Go.Bm

/- What a function returns. -/
namespace Go.Bm
open Go.Am
section
variable {P:Program} {X:Nat->Prop} {φ lV φ':dj} {w w1 w':World} {N N1 N':Names} {s s' s1:St} {Ha:Heap} {B:Nat->Nat} {base:Nat} {v va:AV} {v':Value} {c:eI} {a:Act} {call:Nat->List AV->Heap->Option (AV × Heap)}
theorem ajl (h:eW X φ w N s Ha (tm a)) (hg:Am.dX (hU c) X φ w) {rv:Rv} {x:AV} (hx:resV c s rv=some x):∃xa,resA Ha (Dg N s.env) rv=some xa/\Le (cS N x) xa/\cP (az s) s.H.length x/\bV x=false:=by
 cases rv with
 |t i=>
   simp only[resV,af] at hx;subst hx;refine⟨_,rfl,?_,Z6 h i,SY _ _⟩;rw[oY,<-XH];exact Le.refl _
 |c i ag=>
   simp only[resV] at hx;split at hx
   case h_2=>cases hx
   rename_i u ps hp;simp at hx;subst hx;obtain⟨va,fl,e,hle,h2,h3⟩:=aiU (a:=a) h hg (x:=.t i) (o':=.tmp i) (by simp[ny,cY]) hp
   have iv:bV u=false:=by
    have rd:∀{cs:List AV},PJ ag cs=some u->bV u=false:=by
     intro cs hu;unfold PJ at hu;split at hu
     case h_2=>cases hu
     split at hu
     ·cases hu
     rename_i iv;simp at hu iv;subst hu;exact iv
    unfold CC at hp;split at hp
    ·split at hp
     ·rename_i hu; simp at hp; obtain⟨rfl,_⟩:=hp; exact rd hu
     ·cases hp
    ·split at hp
     ·split at hp
      ·rename_i hu; simp at hp; obtain⟨rfl,_⟩:=hp; exact rd hu
      ·cases hp
     ·cases hp
    ·split at hp
     ·split at hp
      ·split at hp
       ·split at hp
        ·rename_i hu; simp at hp; obtain⟨rfl,_⟩:=hp; exact rd hu
        ·cases hp
       ·cases hp
      ·cases hp
     ·cases hp
    ·cases hp
   rw[nq N iv] at hle;refine⟨va,?_,hle,h2,iv⟩;simp only[mV,ny,fO,Am.ev] at e;simp only[resA];split at e
   ·rename_i cs dI;rw[dI];split at e
    ·rename_i u' MU; simp at e; obtain⟨rfl,_⟩:=e; exact MU
    ·cases e
   ·rename_i b off dI;rw[dI];split at e
    ·rename_i cs hb;simp only[hb];split at e
     ·rename_i u' MU; simp at e; obtain⟨rfl,_⟩:=e; exact MU
     ·cases e
    ·cases e
   ·cases e
theorem XW (h:eW X φ w N s Ha (tm a)) (hg:Am.dX (hU c) X φ w):∀{rvs:List Rv} {xs:List AV},sd c s rvs=some xs->∃xas,Ru Ha (Dg N s.env) rvs=some xas/\xas.length=xs.length/\(∀(i:Nat) (x y:AV),xs[i]?=some x->xas[i]?=some y->Le (cS N x) y)/\mg (az s) s.H.length xs/\∀ x∈xs,bV x=false
 |[],xs,hx=>by simp[sd] at hx; subst hx; exact⟨[],rfl,rfl,fun i x y h=>by simp at h,trivial,fun x hx=>by simp at hx⟩
 |r::rs,xs,hx=>by
   simp only[sd] at hx;split at hx
   case h_2=>cases hx
   rename_i u us h1 h2;simp at hx;subst hx;obtain⟨xa,a1,a2,a3,a4⟩:=ajl h hg h1;obtain⟨xas,b1,b2,b3,b4,b5⟩:=XW h hg h2;refine⟨xa::xas,by simp only[Ru,a1,b1],by simp[b2],fun i x y hx hy=>?_,⟨a3,b4⟩,fun x hx=>?_⟩
   ·cases i with
    |zero=>simp at hx hy; subst hx hy; exact a2
    |succ i=>simp at hx hy; exact b3 i x y hx hy
   ·rcases aG.1 hx with e|e
    ·subst e; exact a4
    ·exact b5 x e
theorem acg (h:eW X φ w N s Ha (tm a)) (hg:Am.dX (hU c) X φ w) {rvs:List Rv} {xs:List AV} (hx:sd c s rvs=some xs):∃xas,Ru Ha (Dg N s.env) rvs=some xas/\Le (cS N (qq xs)) (qq xas)/\cP (az s) s.H.length (qq xs)/\bV (qq xs)=false:=by
 obtain⟨xas,b1,b2,b3,b4,b5⟩:=XW h hg hx;refine⟨xas,b1,?_⟩
 match xs,xas,b2 with
 |[],[],_=>exact⟨Le.refl _,trivial,rfl⟩
 |[x],[y],_=>exact⟨b3 0 x y rfl rfl,b4.1,b5 x (by simp)⟩
 |x::x2::xs,y::y2::ys,hl=>
   refine⟨fun R φ v r=>?_,b4,rfl⟩;simp only[qq,cS] at r ⊢;cases r with
   |dt _ _ vs A4 hh=>exact .dt _ _ _ (by rw[dQ,<-hl]; exact A4) (fun i d u hd hu=>by
     rw[oB] at hd;cases hc:(x::x2::xs)[i]? with
     |none=>rw[hc] at hd; cases hd
     |some z=>
       rw[hc] at hd;simp at hd;subst hd;obtain⟨y',Lk⟩:=bq (l:=y::y2::ys) (i:=i) (by have:=ak hc; omega);exact b3 i z y' hc Lk _ _ _ (hh i y' u Lk hu))
theorem SB.val (h:SB X φ w B base s (tm a)) {r:AV} (hp:pl r=true) {v':Value} (hr:bO (Rd X [] w) [] r v') (B':Nat->Nat):∃φ',SB X φ' w B' 0 ⟨[(0,r)],[]⟩ (fun i=>if i=0 then v' else undef)/\fg φ w φ' w:=by
 obtain⟨N,Ha,h,hb⟩:=h
 have iv:∀g,¬bQ (aW φ.length none) g:=fun g ⟨b,sz,e⟩=>by
  rw[jw] at e;split at e<;>simp at e
 refine⟨aW φ.length none,?_,⟨rfl,rfl,rfl,aO _,aO _,fun g hg ho=>⟨rfl,iv g⟩,⟨by simp,fun b p hb e=>by rw[jw] at e; split at e<;>simp at e⟩⟩⟩;have BU:∀i,get [(0,r)] i=if i=0 then r else .any:=fun i=>by simp only[Am.get]
 have oi:∀i,pl (get [(0,r)] i)=true:=fun i=>by rw[BU]; split; exact hp; rfl
 have hnoo:∀p,az ⟨[(0,r)],[]⟩ p=none:=by
  intro p;cases p with
  |s i=>exact (dR (s:=⟨[(0,r)],[]⟩) (tr (oi i))).1
  |sc i j=>exact (dR (s:=⟨[(0,r)],[]⟩) (tr (oi i))).2 j
  |c b j=>unfold az; simp[at_,aJ]
 refine⟨⟨fun _=>0,fun _=>none⟩,aW φ.length none,⟨fun i=>?_,fun i=>vK _ (oi i),⟨by simp,h.heap.Gg,fun b cs hb=>?_,fun b hb=>?_,fun b b' g sz pg h1=>?_⟩,fun p k xs e=>?_,fun b cs e=>?_,fun p q n e1=>?_,fun b p e1=>?_,fun b d e1=>?_⟩,fun b hb=>by omega,jN _⟩
 ·have hr2:bO (Rd X (aW φ.length none) w) (aW φ.length none) r v':=(hr.mono (R':=Rd X (aW φ.length none) w) (fun a u h=>⟨h.1,iv _,h.2.2⟩) (.refl _)).HH _;show bO _ _ (lT _ i (get [(0,r)] i)) (if i=0 then v' else undef);rw[yO _ _ (oi i),BU];by_cases e:i=0
  ·rw[if_pos e,if_pos e]; exact hr2
  ·rw[if_neg e,if_neg e]; exact .any _ _
 ·rw[jw] at hb; split at hb<;>simp at hb
 ·have:=ak hb;rw[jw];simp at this;rw[if_pos this]
 ·rw[jw] at h1; split at h1<;>simp at h1
 ·rw[hnoo] at e; cases e
 ·simp[aJ] at e
 ·rw[hnoo] at e1; cases e1
 ·simp[aJ] at e1
 ·simp[aJ] at e1
end
end Go.Bm

/- The end of a function that sees no boxes of others. -/
namespace Go.Bm
open Go.Am
section
variable {P:Program} {X:Nat->Prop} {φ lV φ':dj} {w w1 w':World} {N N1 N':Names} {s s' s1:St} {Ha:Heap} {B:Nat->Nat} {base:Nat} {v va:AV} {v':Value} {c:eI} {a:Act} {call:Nat->List AV->Heap->Option (AV × Heap)}
theorem SB.own1 (h:eW X φ w N s Ha (tm a)) {p:Rt} {k len:Nat} {xs:List AV} (hp:az s p=some (k,xs)) (hle:len<=xs.length) (hr:bO (Rd X φ w) φ (cS N (.dP k p 0 len)) v') (B':Nat->Nat):SB X φ w B' 0 ⟨[(0,.own k (xs.take len))],[]⟩ (fun i=>if i=0 then v' else undef):=by
 have BU:∀i,get [(0,AV.own k (xs.take len))] i=if i=0 then .own k (xs.take len) else .any:=fun i=>by simp only[Am.get]
 have hlen:(xs.take len).length=len:=by simp; omega
 have eU:∀q k' ys,az ⟨[(0,.own k (xs.take len))],[]⟩ q=some (k',ys)->q=.s 0/\k'=k/\ys=xs.take len:=by
  intro q k' ys e;have e':=cC.1 e;cases q with
  |s i=>
    simp only[at_,BU,af] at e';by_cases hi:i=0
    ·subst hi; simp at e'; exact⟨rfl,e'.1.symm,e'.2.symm⟩
    ·rw[if_neg hi] at e'; cases e'
  |sc i j=>
    simp only[at_,BU] at e';by_cases hi:i=0
    ·subst hi; simp at e'
    ·rw[if_neg hi] at e'; cases e'
  |c b j=>simp[at_,aJ] at e'
 have one:∀{q},(az ⟨[(0,.own k (xs.take len))],[]⟩ q).isSome->q=.s 0:=by
  intro q hq;obtain⟨⟨k',ys⟩,e⟩:=aU.1 hq;exact (eU q k' ys e).1
 refine⟨⟨N.β,fun q=>N.ν p⟩,Ha,⟨fun i=>?_,fun i=>?_,h.heap,fun q k' ys e=>?_,fun b cs e=>?_,fun q r n e1 e2 _ _=>?_,fun b q e1=>?_,fun b d e1=>?_⟩,fun b hb=>by omega,jN _⟩
 ·show bO _ _ (lT _ i (get [(0,AV.own k (xs.take len))] i)) (if i=0 then v' else undef);rw[BU];by_cases e:i=0
  ·rw[if_pos e,if_pos e];simp only[lT,jx,rU,hlen];simp only[cS,qU] at hr;exact hr
  ·rw[if_neg e,if_neg e]; exact .any _ _
 ·show cP _ _ (get [(0,AV.own k (xs.take len))] i);rw[BU];split<;>trivial
 ·obtain⟨rfl,rfl,rfl⟩:=eU q k' ys e;exact (h.own p k' xs hp).take
 ·simp[aJ] at e
 ·rw[one e1,one e2]
 ·simp[aJ] at e1
 ·simp[aJ] at e1
theorem aht (h:eW X φ w N s Ha (tm a)) (hb:(∀b,b<base->N.β b=B b)/\base<=s.H.length) (hv:bO (Rd X φ w) φ (cS N v) v') (hk:cP (az s) s.H.length v) (iv:bV v=false) {md:Md} {r:AV} {H':Heap} (jz:md.sh=false) (hf:bI md base s v=some (r,H')) (B':Nat->Nat) :
  H'=[]/\∃ φ',SB X φ' w B' 0 ⟨[(0,r)],[]⟩ (fun i=>if i=0 then v' else undef)/\fg φ w φ' w:=by
 have wO:∀a u,Rd X φ w a u->Rd X [] w a u:=fun a u ⟨h1,_,h3⟩=>⟨h1,bQ.nil _,h3⟩;unfold bI at hf;rw[jz] at hf;simp only[bk,if_false] at hf;split at hf
 ·split at hf
  case isFalse=>cases hf
  split at hf
  case h_2=>cases hf
  rename_i r' hr;simp at hf;obtain⟨rfl,rfl⟩:=hf;refine⟨rfl,?_⟩;unfold Nr Nq at hr;split at hr
  ·rename_i k p len;split at hr
   case h_2=>cases hr
   rename_i k' xs hp;split at hr
   case isFalse=>cases hr
   rename_i hc;obtain⟨rfl,hle⟩:=hc;simp at hr;subst hr;exact⟨φ,SB.own1 h hp hle hv B',.refl _ _⟩
  ·simp[bV] at iv
  ·rename_i h1 h2;split at hr
   case isFalse=>cases hr
   rename_i oi;simp at hr;subst hr;rw[l9 N _ oi] at hv;exact SB.val (base:=base) (B:=B) ⟨N,Ha,h,hb⟩ oi ((hv.dD (fQ _ oi) []).mono wO (.refl _)) B'
 ·split at hf
  case h_2=>cases hf
  rename_i r' hr;simp at hf;obtain⟨rfl,rfl⟩:=hf;obtain⟨p1,p2⟩:=Ua h v r' hr hk;exact⟨rfl,SB.val (base:=base) (B:=B) ⟨N,Ha,h,hb⟩ p1 (p2 _ hv) B'⟩
def xl (P:Program) (c:eI):Prop:=∀f g md q,c.orc f=some g->c.fn f=some (md,q)->∀args H r H',(md.sh=true\/H=[])->g args H=some (r,H')->(md.sh=true->kg H'=true)->∀X φ w B (vargs:Array Value),args.length=vargs.size->SB X φ w B H.length ⟨dH 0 args,H⟩ (fun i=>vargs.getD i undef)->Am.dX (hU c) X φ w->Calls P f vargs w (Io X φ w B H.length r H')
def ShOK (P:Program) (c:eI) (n:Nat):Prop:=∀f md q,c.fn f=some (md,q)->md.sh=true->∀args H r H',o9 c (cW c n) f args H=some (r,H')->kg H'=true->∀X φ w B (vargs:Array Value),args.length=vargs.size->SB X φ w B H.length ⟨dH 0 args,H⟩ (fun i=>vargs.getD i undef)->Am.dX (hU c) X φ w->Calls P f vargs w (Io X φ w B H.length r H')
theorem O7 (dm:fj P c) (wQ:xl P c) {n:Nat} (hs:UQ P c n) (jz:ShOK P c n):iw P c (o9 c (cW c n)):=by
 intro f md q hf args H r H' hH h lG X φ w B vargs hl MB hg;by_cases hm:md.sh=true
 ·exact jz f md q hf hm args H r H' h (lG hm) X φ w B vargs hl MB hg
 have Wz:md.sh=false:=by simpa using hm
 have hH':H=[]:=hH.elim (fun e=>absurd e hm) id;subst hH';unfold o9 at h;split at h
 ·rename_i x A5;unfold MP at A5;split at A5
  case h_2=>cases A5
  rename_i g Q3;rw[h] at A5;replace h:=A5;exact wQ f g md q Q3 hf args [] r H' (.inr rfl) h lG X φ w B vargs hl MB hg
 ·rw[hf] at h;simp only at h;split at h
  case isFalse=>cases h
  rename_i hle;obtain⟨fn,h1,h2⟩:=dm.fn f md q hf;simp only[cI,ae,decide_eq_true_eq] at h2;obtain⟨⟨⟨⟨hn,amD⟩,_⟩,hres⟩,vT⟩:=h2;split at vT
  case h_2=>cases vT
  rename_i code hb;have EA:(vargs++s9 (fn.ntmps-vargs.size) undef).size=q.n:=by simp; omega
  have htm:tm { tmps:=vargs++s9 (fn.ntmps-vargs.size) undef,defers:=[] }=fun i=>vargs.getD i undef:=by
   funext i;simp only[tm,bh];by_cases hi:i<vargs.size
   ·rw[uJ hi]
   ·rw[Mx (by omega),nD];rw[Q9 (by omega)];split<;>rfl
  have hS:E0 X φ w B 0 ⟨dH 0 args,[]⟩ { tmps:=vargs++s9 (fn.ntmps-vargs.size) undef,defers:=[] } q.n:=⟨by rw[htm]; exact MB,rfl,EA⟩
  have fin:∀{e:Ex} {s:St} {vs:List AV},cW c n 0 q.body ⟨dH 0 args,[]⟩=some (e,s)->(e=.ret\/e=.normal)->sd c s q.res=some vs->bI md 0 s (qq vs)=some (r,H')->Calls P f vargs w (Io X φ w B 0 r H'):=by
   intro e s vs he hre QZ WC;refine calls_of_wp h1 hb (hs q.n 0 code q.body _ s e (by omega) vT he X φ w B _ hS hg _ fun a' w' φ' hS' wW=>?_);obtain⟨N,Ha,AF,hbB⟩:=hS'.sb;obtain⟨xas,x1,x2,x3,x4⟩:=acg AF (hg.nZ wW) QZ;obtain⟨v,k1,k2⟩:=Gi (P:=P) (s:=⟨Dg N s.env,Ha⟩) (ts:=a'.tmps) (fun i=>by rw[oY]; exact AF.env i) AF.heap hres x1;obtain⟨rfl,nE,s2,a2⟩:=aht AF hbB (x2 _ _ _ k2) x3 x4 Wz WC B;have:bodyPost P fn (Io X φ w B 0 r []) .ret a' w':=⟨hS'.defers,v,k1,v,nE,rfl,s2,wW.trans a2⟩;rcases hre with rfl|rfl
   ·exact this
   ·exact this
  split at h
  ·rename_i s he;split at h
   ·rename_i vs QZ;exact fin he (.inl rfl) QZ h
   ·cases h
  ·rename_i s he;split at h
   ·rename_i vs QZ;exact fin he (.inr rfl) QZ h
   ·cases h
  ·cases h
end
end Go.Bm

/- Every operation, given the calls that share boxes. -/
namespace Go.Bm
open Go.Am
section
variable {P:Program} {c:eI} {call:Nat->List AV->Heap->Option (AV × Heap)}
def Mu (P:Program) (c:eI) (call:Nat->List AV->Heap->Option (AV × Heap)):Prop:=
 ∀ X φ w B base s (o:Oper) (a:Act) kd f args md q r H',cX P o.op (mV kd)=true->SB X φ w B base s (tm a)->Am.dX (hU c) X φ w->getArgs c s.env kd=some (f,args)->c.fn f=some (md,q)->md.sh=true->eZ (args.map eK)=true->kg s.H=true->aS r=[]->bV r=false->kg H'=true->call f (args.map eK) s.H=some (r,H')->nh P X φ w B base ⟨lZ pE s.env,H'⟩ r o a
theorem abH (dm:fj P c) (dW:iw P c call) (jz:Mu P c call) {X:Nat->Prop} {φ:dj} {w:World} {B:Nat->Nat} {base:Nat} {s s1:St} {o:Oper} {a:Act} {kd:Kd} {v:AV} {fq:Fq} (hk:cX P o.op (mV kd)=true) (h:SB X φ w B base s (tm a)) (hg:Am.dX (hU c) X φ w) (hs:eL c call kd s=some (v,s1,fq)):nh P X φ w B base s1 v o a:=by
 unfold eL at hs;split at hs
 ·cases hs
 rename_i f args ha;split at hs
 ·cases hs
 rename_i md q hf;split at hs
 ·rename_i hmd;simp only[ae,bJ] at hmd;split at hs
  ·cases hs
  rename_i uH hz;split at hs
  case h_2=>cases hs
  rename_i r H' hc;split at hs
  case isFalse=>cases hs
  rename_i hr;simp only[af,aC] at hs;obtain⟨rfl,rfl,_⟩:=hs;exact V3 dm dW h hg hk ha hf hmd.2 hz hc hr
 ·obtain⟨lV,h1,a1⟩:=SB.eE (dn args) h;refine nh.ghost a1 ?_;split at hs
  ·cases hs
  rename_i f1 qP M5;split at hs
  case isFalse=>cases hs
  rename_i hff;subst hff;split at hs
  ·rename_i hm;split at hs
   case isFalse=>cases hs
   rename_i hp;split at hs
   case h_2=>cases hs
   rename_i r H' hc;split at hs
   case isFalse=>cases hs
   rename_i hr;simp only[af,aC] at hs;obtain⟨rfl,rfl,_⟩:=hs;simp only[ae,bJ] at hp hr;exact jz X lV w B base _ o a kd f1 qP md q r H' hk h1 (hg.nZ a1) M5 hf hm hp.1 hp.2 (fy.1 hr.1.1) hr.1.2 hr.2 hc
  ·rename_i hm;split at hs
   case isFalse=>cases hs
   rename_i hp;split at hs
   case h_2=>cases hs
   rename_i r H' hc;split at hs
   case isFalse=>cases hs
   rename_i hr;simp only[af,aC] at hs;obtain⟨rfl,rfl,_⟩:=hs;exact V2 dm dW h1 (hg.nZ a1) hk M5 hf (by simpa using hm) hp hc hr
def QR (w:World) (og:Option Nat) (k:Nat) (ys:List AV) (e:Ending) (w':World):Prop:=
 ∃ (g' L4:Nat) (arr':Array Value) (e':TypeId),e=.returned (.slice (some ⟨g',0,none⟩) ys.length L4)/\ys.length<=L4/\L4*k<=arr'.size/\w'.heap[g']?=some (.cells arr' e' (0,0)) /\
  (∀(i:Nat) (d:AV),(aA ys)[i]?=some d->∃u,arr'[i]?=some u/\bO (fun _ _=>False) [] d u)/\(og=some g'\/w.heap.size<=g') /\
  (∀h,h<w.heap.size->og≠some h->w'.heap[h]?=w.heap[h]?)/\w'.os=w.os/\w'.tape=w.tape/\w'.output=w.output/\w.drawn<=w'.drawn/\w.heap.size<=w'.heap.size
abbrev QP (T:Nat->Nat->Addr->Value->Prop) (w:World) (og:Option Nat) (k:Nat) (ys:List AV) (e:Ending) (w':World):Prop:=
 ∃ (g' L4:Nat) (arr':Array Value) (e':TypeId) (a':Addr),e=.returned (.slice (some a') ys.length L4)/\(0<L4->a'=⟨g',0,none⟩)/\ys.length<=L4/\L4*k<=arr'.size/\w'.heap[g']?=some (.cells arr' e' (0,0)) /\
  (∀(i:Nat) (d:AV),(aA ys)[i]?=some d->∃u,arr'[i]?=some u/\bO (T g' (arr'.size+1)) [] d u)/\(og=some g'\/w.heap.size<=g') /\
  (∀h,h<w.heap.size->og≠some h->w'.heap[h]?=w.heap[h]?)/\w'.os=w.os/\w'.tape=w.tape/\w'.output=w.output/\w.drawn<=w'.drawn/\w.heap.size<=w'.heap.size
def US (w:World) (og:Option Nat) (k:Nat) (ys:List AV) (e:Ending) (w':World):Prop:=
 QP (fun _ _ _ _=>False) w og k ys e w' \/
 (og=none/\ys=[]/\e=.returned (.slice none 0 0)/\fg [] w [] w')
theorem QR.n {w:World} {og:Option Nat} {k:Nat} {ys:List AV} {e:Ending} {w':World} (h:QR w og k ys e w'):US w og k ys e w':=by
 obtain⟨g',L4,arr',e',h1,h2⟩:=h;exact .inl ⟨g',L4,arr',e',_,h1,fun _=>rfl,h2⟩
def XA (w:World) (og:Option Nat) (a:Addr) (u:Value):Prop:=og≠some a.block/\w.cell? a=some u/\∃ arr te,w.heap[a.block]?=some (.cells arr te (0,0))
def abn (w:World) (og:Option Nat) (a:Addr) (u:Value):Prop:=og≠some a.block/\w.cell? a=some u
def BesE:AV->World->Option Nat->Addr->Value->Prop
 |.func _ _ _=>abn
 |_=>XA
def Xu (P:Program) (f:Nat) (g:Nat->List AV->List AV->Option (List AV)) (Q:World->Option Nat->Nat->List AV->Ending->World->Prop):Prop:=∀k xs es ys,g k xs es=some ys->(∀x∈xs,x.cells.length=k)->(∀x∈xs,∀d∈x.cells,fz d=true) ->
 ((∀y∈ys,y.cells.length=k)/\∀ y∈ys,∀d∈y.cells,fz d=true) /\
 (xs=[]->∀w (vargs:Array Value),es.length+1=vargs.size->vargs[0]?=some (.slice none 0 0)->(∀(i:Nat) (e:AV) (v:Value),es[i]?=some e->vargs[i+1]?=some v->bO (BesE e w none) [] e v)->Calls P f vargs w (Q w none k ys)) /\
 ∀ w (vargs:Array Value) g0 arr te a cap,w.heap[g0]?=some (.cells arr te (0,0))->(∀(i:Nat) (d:AV),(aA xs)[i]?=some d->∃u,arr[i]?=some u/\bO (fun _ _=>False) [] d u)->es.length+1=vargs.size->vargs[0]?=some (.slice (some a) xs.length cap)->(0<cap->a=⟨g0,0,none⟩)->xs.length<=cap->cap*k<=arr.size ->
  (∀(i:Nat) (e:AV) (v:Value),es[i]?=some e->vargs[i+1]?=some v->bO (BesE e w (some g0)) [] e v)->Calls P f vargs w (Q w (some g0) k ys)
theorem Xu.weak {P:Program} {f:Nat} {g:Nat->List AV->List AV->Option (List AV)} (h:Xu P f g QR):Xu P f g US:=by
 intro k xs es ys hg h1 h2;obtain⟨p,q,r⟩:=h k xs es ys hg h1 h2;exact⟨p,fun a b c d e f=>(q a b c d e f).mono fun _ _ z=>z.n,fun a b c d e f g h i j k l m n o=>(r a b c d e f g h i j k l m n o).mono fun _ _ z=>z.n⟩
def Pn (P:Program) (c:eI):Prop:=True
def afN (P:Program) (c:eI):Prop:=∀f g,c.inp f=some g->(∃md q,c.fn f=some (md,q))/\∀ k xs es ys res,g k xs es=some (ys,res)->(∀x∈xs,x.cells.length=k)->(∀x∈xs,∀d∈x.cells,fz d=true) ->
 ((ys.length=xs.length/\(∀y∈ys,y.cells.length=k))/\((∀y∈ys,∀d∈y.cells,fz d=true)/\∀ m,res=some m->m<=xs.length)) /\
 (xs=[]->∀X φ w (vargs:Array Value) v0 y,(y=.du\/y=.list k [])->es.length+1=vargs.size->vargs[0]?=some v0->bO (Rd X φ w) φ y v0->(∀(i:Nat) (e:AV) (v:Value),es[i]?=some e->vargs[i+1]?=some v->bO (Rd X φ w) [] e v) ->
  Calls P f vargs w (fun e w'=>∃v',e=.returned v'/\bO (Rd X φ w') φ (match res with
   |none=>.dt []
   |some _=>y) v'/\fg [] w [] w')) /\
 ∀ X φ w Ha n rest (vargs:Array Value) v0,cj X φ w Ha->aJ Ha n=some (aA (xs++rest))->es.length+1=vargs.size->vargs[0]?=some v0->bO (Rd X φ w) φ (.sl k n 0 xs.length) v0->(∀(i:Nat) (e:AV) (v:Value),es[i]?=some e->vargs[i+1]?=some v->bO (Rd X φ w) [] e v) ->
  Calls P f vargs w (fun e w'=>∃v' φ',e=.returned v'/\bO (Rd X φ' w') φ' (match res with
   |none=>.dt []
   |some m=>.sl k n 0 m) v'/\cj X φ' w' (Ha.set n (some (aA (ys++rest))))/\fg φ w φ' w')
def v8 (P:Program) (c:eI):Prop:=afN P c/\Pn P c
theorem Pn.none {P:Program} {c:eI} (h:∀f,c.eat f=none):Pn P c:=trivial
theorem v8.none {P:Program} {c:eI} (h:∀f,c.inp f=none) (h2:∀f,c.eat f=none:=by intro _; rfl):v8 P c:=⟨(fun f g hf=>by rw[h f] at hf; cases hf),Pn.none h2⟩
theorem Vz {s:St} {p:Rt} {v:AV} (h:at_ s p=some v):(∀i,get (setAt s p v).env i=get s.env i)/\(setAt s p v).H=s.H:=by
 cases p with
 |s i=>
   simp only[at_,af] at h;refine⟨fun j=>?_,rfl⟩;simp only[setAt,bN];split
   ·rename_i e; subst e; exact h.symm
   ·rfl
 |sc i l=>
   simp only[at_] at h;split at h
   ·rename_i cs hc
    have e:cs.set l v=cs:=by
     apply dN;intro j;rw[aR];split
     ·rename_i e; subst e; split
      ·exact h.symm
      ·rename_i bF; rw[cE (by omega)] at h; cases h
     ·rfl
    have hs:setAt s (.sc i l) v=⟨put s.env i (.agg cs),s.H⟩:=by simp only[setAt,hc,e]
    rw[hs];refine⟨fun j=>?_,rfl⟩;show get (put s.env i (.agg cs)) j=_;rw[bN];split
    ·rename_i e2; subst e2; exact hc.symm
    ·rfl
   ·cases h
 |c b l=>
   simp only[at_] at h;split at h
   ·rename_i cs hc
    have e:cs.set l v=cs:=by
     apply dN;intro j;rw[aR];split
     ·rename_i e; subst e; split
      ·exact h.symm
      ·rename_i bF; rw[cE (by omega)] at h; cases h
     ·rfl
    have hs:setAt s (.c b l) v=⟨s.env,s.H.set b (some cs)⟩:=by simp only[setAt,hc,e]
    rw[hs];refine⟨fun j=>rfl,?_⟩;show s.H.set b (some cs)=s.H;apply dN;intro j;rw[aR];split
    ·rename_i e2;subst e2;rw[if_pos (dL hc),blk_iff.1 hc]
    ·rfl
   ·cases h
theorem gY (xs ys:List AV):aA (xs++ys)=aA xs++aA ys:=by
 induction xs with
 |nil=>rfl
 |cons x r ih=>simp[aA,ih,dJ]
theorem vf {xs:List AV} {d:AV} (h:d∈aA xs):∃x∈xs,d∈x.cells:=by
 induction xs with
 |nil=>simp[aA] at h
 |cons x r ih=>
   simp only[aA,aF] at h;rcases h with h|h
   ·exact⟨x,by simp,h⟩
   ·obtain⟨y,hy,hd⟩:=ih h;exact⟨y,by simp[hy],hd⟩
theorem XA.weak {w:World} {og:Option Nat} {a:Addr} {u:Value} (h:XA w og a u):abn w og a u:=⟨h.1,h.2.1⟩
theorem afc {X:Nat->Prop} {φ:dj} {w w':World} {Ha:Heap} (h:cj X φ w Ha) {n:Nat} {og:Option Nat} (h1:∀g,og=some g->∃sz,φ[n]?=some (some (g,sz))) (h2:og=none->φ.length<=n) {k:Nat} {ys:List AV} (hk:∀y∈ys,y.cells.length=k) {e:Ending} {T:Nat->Nat->Addr->Value->Prop} (hp:QP T w og k ys e w') (hT:∀g' sz a u,T g' sz a u->Rd X (φ.set n none++[some (g',sz)]) w' a u) :
  ∃ φ' v',e=.returned v'/\cj X φ' w' (Ha.set n none++[some (aA ys)])/\fg φ w φ' w'/\bO (Rd X φ' w') φ' (.sl k Ha.length 0 ys.length) v':=by
 obtain⟨g',L4,arr',e',a',rfl,haa,iC,oV,Qq,iS,A5,EC,ho1,ho2,ho3,ho4,ho5⟩:=hp;have hlen:=h.len;have hog:∀g,og=some g->bQ φ g:=fun g e=>by obtain⟨sz,q⟩:=h1 g e; exact⟨n,sz,q⟩
 have hfl:=gN hk
 have sub:∀{b:Nat} {p:Nat × Nat},(φ.set n none)[b]?=some (some p)->φ[b]?=some (some p)/\b≠n:=by
  intro b p hb;rw[aR] at hb;split at hb
  ·split at hb<;>simp at hb
  ·rename_i qd; exact⟨hb,fun e=>qd e.symm⟩
 have notg:∀{b g0 sJ:Nat},b≠n->φ[b]?=some (some (g0,sJ))->og≠some g0:=by
  intro b g0 sJ hb jK e;obtain⟨sz,q⟩:=h1 g0 e;exact hb (h.inj b n g0 sJ sz jK q)
 have nZ:fg φ w (φ.set n none++[some (g',arr'.size+1)]) w':=by
  refine⟨ho1,ho2,ho3,ho4,ho5,fun g0 bF iv=>⟨EC g0 bF fun e=>iv (hog g0 e),fun ho=>?_⟩,⟨by simp,fun b p hb hp=>?_⟩⟩
  ·rcases sM ho with q|q
   ·exact iv (vH q)
   ·simp only at q;subst q;rcases A5 with e|e
    ·exact iv (hog _ e)
    ·omega
  ·rw[aq (by simpa using hb)] at hp;exact (sub hp).1
 refine⟨φ.set n none++[some (g',arr'.size+1)],_,rfl,?_,nZ,?_⟩
 ·refine⟨by simp[hlen],fun g0 hg0=>eY (h.Gg g0 hg0) ho5,fun b ds mO=>?_,fun b mO=>?_,fun b b' g0 sJ sz1 e1 e2=>?_⟩
  ·by_cases bF:b<Ha.length
   ·rw[aq (by simpa using bF)] at mO;rw[aR] at mO;split at mO
    ·split at mO<;>simp at mO
    rename_i qd;obtain⟨g0,sJ,UH,e0,p1,p2,p3,p4,p5,p6⟩:=h.live b ds mO;refine⟨g0,sJ,UH,e0,by rw[aq (by simp; omega),cQ qd]; exact p1,?_,p3,p4,p5,fun i d hd=>?_⟩
    ·rw[EC g0 (dV.1 p2).1 (notg (jF qd) p1)]; exact p2
    ·obtain⟨u,u1,u2⟩:=p6 i d hd;exact⟨u,u1,nZ.rep u2⟩
   ·have Lr:b=Ha.length:=by have:=ak mO; simp at this; omega
    subst Lr;rw[aM (by simp)] at mO;simp at mO;subst mO;refine⟨g',arr'.size+1,arr',_,?_,Qq,.inl ⟨e',rfl,rfl⟩,⟨?_,fun z=>by omega⟩,?_,fun i d hd=>?_⟩
    ·rw[aM (by simp; omega)]; simp[hlen]
    ·rw[hfl];exact MG (bS k iC) oV
    ·intro hX;rcases A5 with q|q
     ·obtain⟨sz,jK⟩:=h1 _ q;cases hb:Ha[n]? with
      |none=>
        have:=ak jK;rw[List.getElem?_eq_none_iff] at hb;omega
      |some z=>
        cases z with
        |none=>have:=h.dead n hb; rw[this] at jK; cases jK
        |some cs=>
          obtain⟨g0,sJ,UH,e0,p1,p2,p3,p4,p5,p6⟩:=h.live n cs hb;rw[p1] at jK;cases jK;exact p5 hX
     ·have:=h.Gg _ hX; omega
    ·obtain⟨u,u1,u2⟩:=iS i d hd;exact⟨u,u1,(u2.mono (fun a u h=>hT _ _ a u h) (.refl _)).HH _⟩
  ·by_cases bF:b<Ha.length
   ·rw[aq (by simpa using bF)] at mO;rw[aq (by simp; omega)];rw[aR] at mO ⊢;by_cases e:n=b
    ·subst e; simp[show n<φ.length by omega]
    ·rw[if_neg e] at mO ⊢; exact h.dead b mO
   ·have Lr:b=Ha.length:=by have:=ak mO; simp at this; omega
    subst Lr;rw[aM (by simp)] at mO;simp at mO
  ·have new:∀(b g0 sJ:Nat),(φ.set n none++[some (g',arr'.size+1)])[b]?=some (some (g0,sJ))->(b<φ.length/\φ[b]?=some (some (g0,sJ))/\b≠n/\g0<w.heap.size)\/(b=φ.length/\g0=g'):=by
    intro b g0 sJ hb;by_cases bF:b<φ.length
    ·rw[aq (by simpa using bF)] at hb;obtain⟨q1,q2⟩:=sub hb;exact .inl ⟨bF,q1,q2,(h.gJ ⟨b,sJ,q1⟩).1⟩
    ·have iE:=ak hb;simp at iE;have Lr:b=φ.length:=by omega
     subst Lr;rw[aM (by simp)] at hb;simp at hb;exact .inr ⟨rfl,hb.1.symm⟩
   have mix:∀{b sJ},φ[b]?=some (some (g',sJ))->b≠n->g'<w.heap.size->False:=fun{b sJ} q hb bF=>by
    rcases A5 with e|e
    ·exact notg hb q e
    ·omega
   rcases new b g0 sJ e1 with⟨l1,q1,d1,g1⟩|⟨l1,g1⟩<;>rcases new b' g0 sz1 e2 with⟨l2,q2,d2,g2⟩|⟨l2,g2⟩
   ·exact h.inj b b' g0 sJ sz1 q1 q2
   ·subst g2; exact (mix q1 d1 g1).elim
   ·subst g1; exact (mix q2 d2 g2).elim
   ·omega
 ·refine .sl _ _ _ _ _ _ _ (by simp[hlen]) iC fun g0 sJ e0=>?_;rw[aM (by simp; omega)] at e0;simp[hlen] at e0;obtain⟨rfl,rfl⟩:=e0;exact⟨haa,by omega⟩
theorem eW.M9 {X:Nat->Prop} {φ lV:dj} {w w1:World} {N:Names} {s:St} {Ha Ha':Heap} {t:Nat->Value} (h:eW X φ w N s Ha t) {p:Rt} {kp:Nat} {xs:List AV} (hp:az s p=some (kp,xs)) (ad:fg φ w lV w1) (hh:cj X lV w1 Ha') {n:Nat} (hn:N.ν p=some n\/φ.length<=n) (lG:∀m,m≠n->m<Ha.length->aJ Ha' m=aJ Ha m):eW X lV w1 N (setAt (cB (sw p) s) p .any) Ha' t:=by
 have hpo:(az s p).isSome:=by rw[hp]; rfl
 obtain⟨d1,d2,d3⟩:=h.drop hp;have hlen:=h.heap.len;refine d1.nZ ad hh (fun q k' zs e=>?_) (fun b EE=>?_)
 ·have e':=e;rw[d2] at e';split at e'
  ·cases e'
  rename_i qJ;refine (d1.own q k' zs e).same fun m hmq=>?_;have hml:=h.gJ (by rw[e']; rfl) hmq;refine lG m ?_ hml;rintro rfl;rcases hn with hn|hn
  ·exact qJ (h.inj q p m (by rw[e']; rfl) hpo hmq hn)
  ·omega
 ·have M3:(aJ s.H b).isSome:=by
   cases e:aJ s.H b with
   |none=>rw[d3.Fw b e] at EE; cases EE
   |some _=>rfl
  have hml:=h.tP M3;refine lG _ ?_ hml;intro e;rcases hn with hn|hn
  ·exact h.bx b p M3 hpo (by rw[hn,e])
  ·omega
theorem abR {X:Nat->Prop} {φ:dj} {w w':World} {Ha:Heap} (h:cj X φ w Ha) {n:Nat} {og:Option Nat} (h1:∀g,og=some g->∃sz,φ[n]?=some (some (g,sz))) (EC:∀g,g<w.heap.size->og≠some g->w'.heap[g]?=w.heap[g]?) (ho1:w'.os=w.os) (ho2:w'.tape=w.tape) (ho3:w'.output=w.output) (ho4:w.drawn<=w'.drawn) (ho5:w.heap.size<=w'.heap.size):cj X (φ.set n none) w' (Ha.set n none)/\fg φ w (φ.set n none) w':=by
 have hlen:=h.len;have hog:∀g,og=some g->bQ φ g:=fun g e=>by obtain⟨sz,q⟩:=h1 g e; exact⟨n,sz,q⟩
 have sub:∀{b:Nat} {p:Nat × Nat},(φ.set n none)[b]?=some (some p)->φ[b]?=some (some p)/\b≠n:=by
  intro b p hb;rw[aR] at hb;split at hb
  ·split at hb<;>simp at hb
  ·rename_i qd; exact⟨hb,fun e=>qd e.symm⟩
 have notg:∀{b g0 sJ:Nat},b≠n->φ[b]?=some (some (g0,sJ))->og≠some g0:=by
  intro b g0 sJ hb jK e;obtain⟨sz,q⟩:=h1 g0 e;exact hb (h.inj b n g0 sJ sz jK q)
 have nZ:fg φ w (φ.set n none) w':=⟨ho1,ho2,ho3,ho4,ho5,fun g0 bF iv=>⟨EC g0 bF fun e=>iv (hog g0 e),fun ho=>iv (vH ho)⟩,⟨by simp,fun b p _ hp=>(sub hp).1⟩⟩;refine⟨⟨by simp[hlen],fun g0 hg0=>eY (h.Gg g0 hg0) ho5,fun b ds mO=>?_,fun b mO=>?_,fun b b' g0 sJ sz1 e1 e2=>h.inj b b' g0 sJ sz1 (sub e1).1 (sub e2).1⟩,nZ⟩
 ·rw[aR] at mO;split at mO
  ·split at mO<;>simp at mO
  rename_i qd;obtain⟨g0,sJ,UH,e0,p1,p2,p3,p4,p5,p6⟩:=h.live b ds mO;refine⟨g0,sJ,UH,e0,by rw[cQ qd]; exact p1,?_,p3,p4,p5,fun i d hd=>?_⟩
  ·rw[EC g0 (dV.1 p2).1 (notg (jF qd) p1)]; exact p2
  ·obtain⟨u,u1,u2⟩:=p6 i d hd;exact⟨u,u1,nZ.rep u2⟩
 ·rw[aR] at mO ⊢;by_cases e:n=b
  ·subst e;rw[if_pos rfl] at mO ⊢;split at mO
   ·rw[if_pos (by omega)]
   ·cases mO
  ·rw[if_neg e] at mO ⊢; exact h.dead b mO
theorem agD {X:Nat->Prop} {φ:dj} {w:World} {B:Nat->Nat} {base:Nat} {N:Names} {s:St} {Ha:Heap} {t:Nat->Value} (h:eW X φ w N s Ha t) (hb:(∀b,b<base->N.β b=B b)/\base<=s.H.length) {p:Rt} {kp:Nat} {xs ys:List AV} (hp:az s p=some (kp,xs)) {k:Nat} {T:Nat->Nat->Addr->Value->Prop} {n:Nat} {og:Option Nat} (h1:∀g,og=some g->∃sz,φ[n]?=some (some (g,sz))) (h2:og=none->φ.length<=n) (hn:N.ν p=some n\/φ.length<=n) (hys:(∀y∈ys,y.cells.length=k)/\∀ y∈ys,∀d∈y.cells,fz d=true) {e:Ending} {w1:World} (aeN:QP T w og k ys e w1\/(og=none/\ys=[]/\e=.returned (.slice none 0 0)/\fg [] w [] w1)) (hT:∀g' sz a u,T g' sz a u->Rd X (φ.set n none++[some (g',sz)]) w1 a u) :
  ∃ v',e=.returned v'/\∃ lV,dU X lV w1 B base (setAt (cB (sw p) s) p .any) (.own k ys) t v'/\fg φ w lV w1:=by
  have hpo:(az s p).isSome:=by rw[hp]; rfl
  obtain⟨d1,d2,d3⟩:=h.drop hp;have BV:(∀b,b<base->N.β b=B b)/\base<=(setAt (cB (sw p) s) p .any).H.length:=⟨hb.1,by rw[d3.len]; exact hb.2⟩;have hlen:=h.heap.len;rcases aeN with aeN|hnil
  case inr=>
   obtain⟨_,rfl,rfl,ad⟩:=hnil;have fY:eW X φ w1 N (setAt (cB (sw p) s) p .any) Ha t:=d1.nZ (.of_same ad) (h.heap.of_same ad) d1.own (fun _ _=>rfl);refine⟨_,rfl,φ,dU.quiet fY BV ?_ ?_ ?_,.of_same ad⟩
   ·trivial
   ·trivial
   ·simp only[yE]; exact .du _
  obtain⟨lV,v',rfl,hh,ad,rv⟩:=afc h.heap h1 h2 hys.1 aeN hT;refine⟨v',rfl,lV,?_,ad⟩
  have lG:∀m,m≠n->m<Ha.length->aJ (Ha.set n none++[some (aA ys)]) m=aJ Ha m:=fun m E5 bF=>by
   rw[fE,if_neg (by simp; omega)];unfold aJ; rw[cQ (jF E5)]
  have fY:eW X lV w1 N (setAt (cB (sw p) s) p .any) (Ha.set n none++[some (aA ys)]) t:=h.M9 hp ad hh hn lG;refine dU.fresh fY BV (n:=Ha.length) ⟨aA ys,by rw[fE,if_pos (by simp)],by rw[gN hys.1]; exact aO _,hys.1,fun i d hd=>?_⟩ (fun q hq e=>?_) (fun b EE e=>?_) rv
  ·obtain⟨y,hy,hdy⟩:=vf (bn hd);have hfd:=hys.2 y hy d hdy;exact⟨hfd,d,hd,(mh hfd).2,Le.refl _⟩
  ·have hq':(az s q).isSome:=by
    rw[d2] at hq;split at hq
    ·cases hq
    ·exact hq
   have:=h.gJ hq' e;omega
  ·have M3:(aJ s.H b).isSome:=by
    cases e:aJ s.H b with
    |none=>rw[d3.Fw b e] at EE; cases EE
    |some _=>rfl
   have:=h.tP M3;omega
theorem akx (dm:fj P c) (heat:Pn P c) {X:Nat->Prop} {φ:dj} {w:World} {B:Nat->Nat} {base:Nat} {s s1:St} {o:Oper} {a:Act} {f:Nat} {x:E} {es:List E} {v:AV} {fq:Fq} (hk:cX P o.op (mV (.call f (x::es)))=true) (h:SB X φ w B base s (tm a)) (hg:Am.dX (hU c) X φ w) {g:Nat->List AV->List AV->Option (List AV)} (Q3:c.eat f=some g) (hs:WX s g (bp c s.env x) (dC c s.env es)=some (v,s1,fq)):nh P X φ w B base s1 v o a:=by unfold WX at hs;cases hs
mutual
theorem PO:∀x,pl x=true->aS x=[]
 |.dP _ _ _ _,h=>by simp[pl] at h
 |.fv _ _ _ _,h=>by simp[pl] at h
 |.agg cs,h=>by simp only[pl] at h; simp only[aS]; exact AL cs h
 |.dt cs,h=>by simp only[pl] at h; simp only[aS]; exact AL cs h
 |.func _ a b,h=>by simp only[pl,ae] at h; simp only[aS,AL a h.2.1,AL b h.2.2,jv]
 |.any,_=>rfl|.undef,_=>rfl|.fN,_=>rfl|.fS,_=>rfl|.du,_=>rfl
 |.int _ _,_=>rfl|.bool _,_=>rfl|.str _,_=>rfl|.list _ _,_=>rfl|.dy _,_=>rfl|.ptr _ _,_=>rfl|.sl _ _ _ _,_=>rfl|.own _ _,_=>rfl
theorem AL:∀xs,dq xs=true->dn xs=[]
 |[],_=>rfl
 |x::r,h=>by simp only[dq,ae] at h; simp only[dn,PO x h.1,AL r h.2,jv]
end
theorem aeq {s s1:St} {f:Nat} {x:AV} {es:List AV} {v:AV} {fl:Fq} (h:locV c call s f es x=some (v,s1,fl)):∃b md q cs cs',x=.ptr b 0/\c.fn f=some (md,q)/\aJ s.H b=some cs/\(md.sh=true/\dq es=true/\dq cs=true)/\call f (.ptr 0 0::es) [some cs]=some (v,[some cs'])/\(pl v=true/\dq cs'=true)/\s1=⟨s.env,s.H.set b (some cs')⟩/\fl=.lw b:=by
 unfold locV at h;split at h
 case h_2=>cases h
 rename_i b;split at h
 case h_2=>cases h
 rename_i md q cs hf hb;split at h
 case isFalse=>cases h
 rename_i hp;split at h
 case h_2=>cases h
 rename_i r cs' hc;split at h
 case isFalse=>cases h
 rename_i hr;simp only[af,aC] at h;obtain⟨rfl,rfl,rfl⟩:=h;exact⟨b,md,q,cs,cs',rfl,hf,hb,hp,hc,hr,rfl,rfl⟩
theorem zN {s s1:St} {kd:Kd} {v:AV} {fl:Fq} (h:po c call s kd=some (some (v,s1,fl))):∃f x es b md q cs cs',kd=.call f (x::es)/\c.loc f=true/\bp c s.env x=.ptr b 0/\c.fn f=some (md,q)/\aJ s.H b=some cs/\(md.sh=true/\dq (dC c s.env es)=true/\dq cs=true)/\call f (.ptr 0 0::dC c s.env es) [some cs]=some (v,[some cs'])/\(pl v=true/\dq cs'=true)/\s1=⟨s.env,s.H.set b (some cs')⟩/\fl=.lw b:=by
 unfold po at h;split at h
 case h_2=>cases h
 rename_i f x es;split at h
 case isFalse=>cases h
 rename_i hl;simp only[af] at h;obtain⟨b,md,q,cs,cs',h1,h2,h3,h4,h5,h6,h7,h8⟩:=aeq h;exact⟨f,x,es,b,md,q,cs,cs',rfl,hl,h1,h2,h3,h4,h5,h6,h7,h8⟩
theorem IG {s s1:St} {kd:Kd} {v:AV} {f:Fq} (h:po c call s kd=some (some (v,s1,f))):∃b,f=.lw b:=by
 obtain⟨_,_,_,b,_,_,_,_,_,_,_,_,_,_,_,_,_,e⟩:=zN h;exact⟨b,e⟩
theorem VV:∀{l:List AV},(∀y∈l,pl y=true)->dq l=true
 |[],_=>rfl
 |x::r,h=>by simp only[dq,ae]; exact⟨h x (by simp),VV fun y hy=>h y (by simp[hy])⟩
theorem Qy:∀{l:List AV},(∀y∈l,y.cells=[y])->aA l=l
 |[],_=>rfl
 |x::r,h=>by
   simp only[aA];rw[h x (by simp),Qy fun y hy=>h y (by simp[hy])];rfl
theorem ae6 {x:AV} (h:fz x=true):x.cells=[x]:=by
 have:=(mh h).2;cases x<;>first|rfl|(simp[AV.leaf] at this; done)
theorem agK (dm:fj P c) (pW:afN P c) {X:Nat->Prop} {φ:dj} {w:World} {B:Nat->Nat} {base:Nat} {s:St} {o:Oper} {a:Act} {f:Nat} {x:E} {es:List E} {g:Nat->List AV->List AV->Option (List AV × Option Nat)} (hk:cX P o.op (mV (.call f (x::es)))=true) (h:SB X φ w B base s (tm a)) (hg:Am.dX (hU c) X φ w) (Q3:c.inp f=some g) {k b len:Nat} {cs ys:List AV} {res:Option Nat} (hx:bp c s.env x=.sl k b 0 len) (hb:aJ s.H b=some cs) (hc:k=1/\len<=cs.length/\E8 cs=true/\dq (dC c s.env es)=true) (MZ:g k (cs.take len) (dC c s.env es)=some (ys,res)):nh P X φ w B base ⟨s.env,s.H.set b (some (aA ys++cs.drop len))⟩ (Lj k b res) o a:=by
 obtain⟨rfl,hle,Ii,oi⟩:=hc;obtain⟨⟨md,q,hf⟩,hI⟩:=pW f g Q3;obtain⟨N,Ha,h,EE⟩:=h;obtain⟨vargs,oW,hA,Bt⟩:=nV (kd:=.call f (x::es)) (args:=bp c s.env x::dC c s.env es) dm h hg hk rfl hf;rw[hx] at hA Bt;have hl:(dC c s.env es).length+1=vargs.size:=by have:=hA.1; simpa using this
 obtain⟨v0,TO⟩:=bX (l:=vargs) (i:=0) (by omega);have r0:=hA.2 0 _ v0 rfl TO
 have hes:∀(i:Nat) (e:AV) (u:Value),(dC c s.env es)[i]?=some e->vargs[i+1]?=some u->bO (Rd X φ w) [] e u:=fun i e u he hu=>by
  have r1:=hA.2 (i+1) e u (by simpa using he) hu;have MD:=fR oi i e he;have ht:gL N e=e:=by cases e<;>first|exact l9 N _ MD|(simp[pl] at MD; done)
  rw[ht] at r1;exact r1.dD (fQ _ MD) []
 simp only[gL,cS] at r0;obtain⟨as,b1,b2,b3⟩:=h.box b cs hb;have hce:∀y∈cs,y.cells=[y]:=fun y hy=>ae6 (qf Ii y hy);have hpc:dq cs=true:=VV fun y hy=>(mh (qf Ii y hy)).1
 have hH1:cj X φ w (Ha.set (N.β b) (some cs)):=less h.heap b1 (by omega) (.inr (by omega)) fun i d hd=>by
  obtain⟨_,a',a1,a2⟩:=b3 i d hd;rw[sT N _ (fR hpc i d hd)] at a2;exact⟨a',a1,a2⟩
 have htd:aA (cs.take len++cs.drop len)=cs:=by rw[Vi]; exact Qy hce
 have bF:(cs.take len).length=len:=by rw[bw]; omega
 obtain⟨⟨⟨j1,j2⟩,j3,j4⟩,_,j6⟩:=hI 1 _ _ ys res MZ (fun y hy=>by rw[hce y (dh hy)]; rfl) (fun y hy d hd=>by
  have Lk:=dh hy;rw[hce y Lk] at hd;simp at hd;subst hd;exact qf Ii d Lk)
 have jL:=j6 X φ w (Ha.set (N.β b) (some cs)) (N.β b) (cs.drop len) vargs v0 hH1 (by rw[htd,dz,if_pos ⟨rfl,dL b1⟩]) hl TO (by rw[bF]; exact r0) hes;intro K Q hK;unfold Oper.wp;rw[oW,Oper.upon_enter];refine jL.mono ?_;rintro e w1 ⟨v',lV,rfl,rv,hh,ad⟩;rw[List.set_set,gY,Qy (l:=cs.drop len) fun y hy=>hce y (di hy)] at hh
 have MW:dq (aA ys++cs.drop len)=true:=VV fun y hy=>by
  rcases aF.1 hy with hy|hy
  ·obtain⟨z,hz,hd⟩:=vf hy;exact (mh (j3 z hz y hd)).1
  ·exact (mh (qf Ii y (di hy))).1
 have fY:=h.PD (cs':=aA ys++cs.drop len) hb hpc MW ad hh (by rw[dz,if_pos ⟨rfl,dL b1⟩]) fun m hm=>by rw[dz,if_neg (fun h=>hm h.1)]
 refine hK v' w1 lV (dU.quiet fY ⟨EE.1,by simpa using EE.2⟩ ?_ ?_ ?_) ad
 ·cases res with
  |none=>trivial
  |some m=>
    show b<(s.H.set b _).length;rw[bG]; exact dL hb
 ·cases res<;>trivial
 ·cases res with
  |none=>simpa[Lj,yE,cS,mR] using rv
  |some m=>simpa[Lj,yE,cS] using rv
theorem akt (dm:fj P c) (pW:v8 P c) {X:Nat->Prop} {φ:dj} {w:World} {B:Nat->Nat} {base:Nat} {s s1:St} {o:Oper} {a:Act} {kd:Kd} {v:AV} {fq:Fq} (hk:cX P o.op (mV kd)=true) (h:SB X φ w B base s (tm a)) (hg:Am.dX (hU c) X φ w) (hs:rV c s kd=some (some (v,s1,fq))):nh P X φ w B base s1 v o a:=by
 unfold rV at hs;split at hs
 case h_2=>cases hs
 rename_i f x es;split at hs
 case h_1=>
  split at hs
  ·cases hs
  ·rename_i g Q3;simp only[af] at hs;exact akx dm pW.2 hk h hg Q3 hs
 replace pW:=pW.1;rename_i g Q3;simp only[af] at hs;split at hs
 case h_4=>cases hs
 case h_3=>
  rename_i k b len hx;split at hs
  case h_2=>cases hs
  rename_i cs hb;split at hs
  case isFalse=>cases hs
  rename_i hc;split at hs
  case h_2=>cases hs
  rename_i ys res MZ;simp only[af,aC] at hs;obtain⟨rfl,rfl,_⟩:=hs;exact agK dm pW hk h hg Q3 hx hb hc MZ
 ·rename_i k hx;split at hs
  case isFalse=>cases hs
  rename_i oi;split at hs
  case h_2=>cases hs
  rename_i ys res MZ;simp only[af,aC] at hs;obtain⟨rfl,rfl,_⟩:=hs;obtain⟨⟨md,q,hf⟩,hI⟩:=pW f g Q3;obtain⟨N,Ha,h,hb⟩:=h;obtain⟨vargs,oW,hA,Bt⟩:=nV (kd:=.call f (x::es)) (args:=bp c s.env x::dC c s.env es) dm h hg hk rfl hf;rw[hx] at hA Bt;have hl:(dC c s.env es).length+1=vargs.size:=by have:=hA.1; simpa using this
  obtain⟨v0,TO⟩:=bX (l:=vargs) (i:=0) (by omega);have r0:=hA.2 0 _ v0 rfl TO
  have hes:∀(i:Nat) (e:AV) (u:Value),(dC c s.env es)[i]?=some e->vargs[i+1]?=some u->bO (Rd X φ w) [] e u:=fun i e u he hu=>by
   have r1:=hA.2 (i+1) e u (by simpa using he) hu;have MD:=fR oi i e he;have ht:gL N e=e:=by cases e<;>first|exact l9 N _ MD|(simp[pl] at MD; done)
   rw[ht] at r1;exact r1.dD (fQ _ MD) []
  obtain⟨_,j3,_⟩:=hI k _ _ ys res MZ (fun y hy=>by simp at hy) (fun y hy=>by simp at hy);simp only[gL,cS] at r0;have jL:=j3 rfl X φ w vargs v0 _ (.inr rfl) hl TO r0 hes;intro K Q hK;unfold Oper.wp;rw[oW,Oper.upon_enter];refine jL.mono ?_;rintro e w1 ⟨v',rfl,rv,ad⟩;have fY:eW X φ w1 N s Ha (tm a):=h.nZ (.of_same ad) (h.heap.of_same ad) h.own (fun _ _=>rfl);refine hK v' w1 φ (dU.quiet fY hb ?_ ?_ ?_) (.of_same ad)
  ·cases res<;>trivial
  ·cases res<;>trivial
  ·cases res with
   |none=>simpa[inpL,yE,cS,mR] using rv
   |some m=>simpa[inpL,yE,cS] using rv
 rename_i k p len hx;split at hs
 case h_2=>cases hs
 rename_i k' xs hp;split at hs
 case isFalse=>cases hs
 rename_i hc;obtain⟨rfl,hle,oi⟩:=hc;split at hs
 case h_2=>cases hs
 rename_i ys res MZ;simp only[af,aC] at hs;obtain⟨rfl,rfl,_⟩:=hs;obtain⟨⟨md,q,hf⟩,hI⟩:=pW f g Q3;obtain⟨N,Ha,h,hb⟩:=h;obtain⟨vargs,oW,hA,Bt⟩:=nV (kd:=.call f (x::es)) (args:=bp c s.env x::dC c s.env es) dm h hg hk rfl hf;rw[hx] at hA Bt;have hl:(dC c s.env es).length+1=vargs.size:=by have:=hA.1; simpa using this
 obtain⟨v0,TO⟩:=bX (l:=vargs) (i:=0) (by omega);have r0:=hA.2 0 _ v0 rfl TO
 have hes:∀(i:Nat) (e:AV) (u:Value),(dC c s.env es)[i]?=some e->vargs[i+1]?=some u->bO (Rd X φ w) [] e u:=fun i e u he hu=>by
  have r1:=hA.2 (i+1) e u (by simpa using he) hu;have MD:=fR oi i e he;have ht:gL N e=e:=by cases e<;>first|exact l9 N _ MD|(simp[pl] at MD; done)
  rw[ht] at r1;exact r1.dD (fQ _ MD) []
 have eU:=h.own p k' xs hp;cases hn:N.ν p with
 |none=>
   rw[hn] at eU;have hxs:xs=[]:=eU;subst hxs;have h0:len=0:=by simpa using hle
   subst h0;obtain⟨⟨⟨j1,_⟩,_,j2⟩,j3,_⟩:=hI k' _ _ ys res MZ (fun y hy=>by simp at hy) (fun y hy=>by simp at hy);have hys:ys=[]:=by simpa using j1
   subst hys;simp only[gL,cS,hn] at r0;have jL:=j3 (by simp) X φ w vargs v0 _ (.inl rfl) hl TO r0 hes;intro K Q hK;unfold Oper.wp;rw[oW,Oper.upon_enter];refine jL.mono ?_;rintro e w1 ⟨v',rfl,rv,ad⟩;obtain⟨se,sH⟩:=Vz (s:=s) (p:=p) (v:=.own k' []) (cC.1 hp);have fY:eW X φ w1 N (setAt s p (.own k' ([]++([]:List AV).drop 0))) Ha (tm a):=(h.nZ (.of_same ad) (h.heap.of_same ad) h.own (fun _ _=>rfl)).ext se sH;refine hK v' w1 φ (dU.quiet fY ⟨hb.1,by show base<=(setAt s p (.own k' [])).H.length; rw[sH]; exact hb.2⟩ ?_ ?_ ?_) (.of_same ad)
   ·cases res with
    |none=>trivial
    |some m=>
      have:=j2 m rfl;simp at this;subst this
      exact⟨[],by
       show az (setAt s p (.own k' [])) p=_;rw[N9 se sH]; exact hp,by simp⟩
   ·cases res<;>trivial
   ·cases res with
    |none=>simpa[inpV,yE,cS,mR] using rv
    |some m=>simpa[inpV,yE,cS,hn] using rv
 |some n=>
   rw[hn] at eU;obtain⟨cs,c1,c2,c3,c4⟩:=eU;have hxs:xs.take len++xs.drop len=xs:=Vi len xs
   have Ii:∀y∈xs,∀d∈y.cells,fz d=true:=by
    intro y hy d hd
    have:d∈aA xs:=by
     clear c1 c2 c3 c4 MZ hp hle hxs hA r0 Bt hx TO hes
     induction xs with
     |nil=>simp at hy
     |cons z r ih=>
       simp only[aA,aF];rcases aG.1 hy with e|e
       ·subst e; exact .inl hd
       ·exact .inr (ih e)
    obtain⟨i,hi⟩:=bE this;exact (c4 i d hi).1
   obtain⟨⟨⟨j1,j2⟩,j3,j4⟩,_,j6⟩:=hI k' _ _ ys res MZ (fun y hy=>c3 y (dh hy)) (fun y hy=>Ii y (dh hy));have bF:(xs.take len).length=len:=by simp; omega
   rw[bF] at j1;simp only[gL,cS,hn,qU] at r0
   have hH1:cj X φ w (Ha.set n (some (aA xs))):=less h.heap c1 (by rw[gN c3]; exact c2) (.inl fun g sz e=>r0.yR e) fun i d hd=>by
    obtain⟨_,a',b1,_,b2⟩:=c4 i d hd;exact⟨a',b1,b2⟩
   have jL:=j6 X φ w (Ha.set n (some (aA xs))) n (xs.drop len) vargs v0 hH1 (by rw[hxs,dz,if_pos ⟨rfl,dL c1⟩]) hl TO (by rw[bF]; exact r0) hes;intro K Q hK;unfold Oper.wp;rw[oW,Oper.upon_enter];refine jL.mono ?_;rintro e w1 ⟨v',lV,rfl,rv,hh,ad⟩;rw[List.set_set] at hh
   have TU:∀y∈ys++xs.drop len,y.cells.length=k':=fun y hy=>by
    rcases aF.1 hy with hy|hy
    ·exact j2 y hy
    ·exact c3 y (di hy)
   have hnew:qQ (Ha.set n (some (aA (ys++xs.drop len)))) (some n) k' (ys++xs.drop len):=by
    refine⟨aA (ys++xs.drop len),by rw[dz,if_pos ⟨rfl,dL c1⟩],by rw[gN TU]; exact aO _,TU,fun i d hd=>?_⟩;have hm:=vf (bn hd);obtain⟨y,hy,hdy⟩:=hm
    have hfd:fz d=true:=by
     rcases aF.1 hy with hy|hy
     ·exact j3 y hy d hdy
     ·exact Ii y (di hy) d hdy
    exact⟨hfd,d,hd,(mh hfd).2,Le.refl _⟩
   obtain⟨fY,jz⟩:=h.upd (xs':=ys++xs.drop len) hp hn (by simp; omega) ad hh hnew (fun m E5=>by rw[dz,if_neg (fun e=>E5 e.1)])
   have fh:az (setAt s p (.own k' (ys++xs.drop len))) p=some (k',ys++xs.drop len):=by
    have yH:=cC.1 hp;refine cC.2 ?_;rw[F9 ⟨(fun cs e=>by cases e),_,yH,(fun cs e=>by cases e)⟩ (Kz (by rw[hp]; rfl)),if_pos rfl]
   refine hK v' w1 lV (dU.quiet fY ⟨hb.1,by rw[jz.len]; exact hb.2⟩ ?_ ?_ ?_) ad
   ·cases res with
    |none=>trivial
    |some m=>
      have:=j4 m rfl;refine⟨_,fh,?_⟩;rw[bK];omega
   ·cases res<;>trivial
   ·cases res with
    |none=>simpa[inpV,yE,cS,mR] using rv
    |some m=>simpa[inpV,yE,cS,hn] using rv
theorem akn (dm:fj P c) (dW:iw P c call) {X:Nat->Prop} {φ:dj} {w:World} {B:Nat->Nat} {base:Nat} {s s1:St} {o:Oper} {a:Act} {kd:Kd} {v:AV} {fq:Fq} (hk:cX P o.op (mV kd)=true) (h:SB X φ w B base s (tm a)) (hg:Am.dX (hU c) X φ w) (hs:po c call s kd=some (some (v,s1,fq))):nh P X φ w B base s1 v o a:=by
 obtain⟨f,x,es,b,md,q,cs,cs',rfl,hl,hx,hf,hb,⟨jz,oi,hpc⟩,hc,⟨hpr,Wy⟩,rfl,rfl⟩:=zN hs;obtain⟨N,Ha,h,EE⟩:=h;obtain⟨vargs,oW,hA,Bt⟩:=nV (kd:=.call f (x::es)) (args:=bp c s.env x::dC c s.env es) dm h hg hk rfl hf;rw[hx] at hA Bt;generalize dC c s.env es=as at oi hc hA Bt;obtain⟨bs,b1,b2,b3⟩:=h.box b cs hb
 obtain⟨g,sz,arr,te,g1,g2,g3,g4,g5,g6⟩:=h.heap.cat b1 (fun g sz q=>by
  obtain⟨v0,TO⟩:=bX (l:=vargs) (i:=0) (by have:=hA.1; simp at this; omega);have r0:bO (Rd X φ w) φ (.ptr (N.β b) 0) v0:=hA.2 0 _ v0 rfl TO;exact r0.agu q)
 have og:bQ φ g:=⟨_,sz,g1⟩
 have ow:∀g0,bQ [some (g,sz)] g0->g0=g:=by
  rintro g0 ⟨i,z,hi⟩;cases i with
  |zero=>simp at hi; exact hi.1.symm
  |succ i=>simp at hi
 have rdin:∀a u,Rd X φ w a u->Rd (fun g0=>X g0\/(bQ φ g0/\g0≠g)) [some (g,sz)] w a u:=fun a u ⟨h1,h2,h3⟩=>⟨fun h=>h.elim h1 (fun h=>h2 h.1),fun ho=>h2 (by rw[ow _ ho]; exact og),h3⟩
 have hh:cj (fun g0=>X g0\/(bQ φ g0/\g0≠g)) [some (g,sz)] w [some cs]:=by
  refine⟨rfl,fun g0 h0=>h0.elim (h.heap.Gg g0) (fun ho=>(h.heap.gJ ho.1).1),fun i ds hi=>?_,fun i hi=>?_,fun i i' g0 z z' e1 e2=>?_⟩
  ·cases i with
   |succ i=>simp at hi
   |zero=>
     simp at hi;subst hi;refine⟨g,sz,arr,_,rfl,g2,.inl ⟨te,rfl,g3⟩,⟨by omega,fun z=>by omega⟩,fun h0=>h0.elim g5 (fun h1=>h1.2 rfl),fun j d hd=>?_⟩;obtain⟨_,a',IK,hle⟩:=b3 j d hd;obtain⟨u,u1,u2⟩:=g6 j a' IK;have hpd:=fR hpc j d hd;rw[sT N _ hpd] at hle;exact⟨u,u1,((hle _ _ _ u2).dD (fQ _ hpd) _).mono rdin (.refl _)⟩
  ·cases i with
   |zero=>simp at hi
   |succ i=>simp at hi
  ·cases i with
   |succ i=>simp at e1
   |zero=>cases i' with
     |zero=>rfl
     |succ i'=>simp at e2
 have BU:∀i,get (dH 0 (AV.ptr 0 0::as)) i=(AV.ptr 0 0::as)[i]?.getD .any:=fun i=>by rw[sZ]; simp
 have Lp:∀i,(get (dH 0 (AV.ptr 0 0::as)) i=.ptr 0 0/\i=0)\/pl (get (dH 0 (AV.ptr 0 0::as)) i)=true:=fun i=>by
  rw[BU];cases i with
  |zero=>exact .inl ⟨rfl,rfl⟩
  |succ i=>
    refine .inr ?_;simp only[pq];cases e:as[i]? with
    |none=>rfl
    |some x=>exact fR oi i x e
 have iv:∀p,az ⟨dH 0 (AV.ptr 0 0::as),[some cs]⟩ p=none:=by
  have hw:∀i,bV (get (dH 0 (AV.ptr 0 0::as)) i)=false:=fun i=>(Lp i).elim (fun e=>by rw[e.1]; rfl) tr;intro p;cases p with
  |s i=>exact (dR (s:=⟨dH 0 (AV.ptr 0 0::as),[some cs]⟩) (hw i)).1
  |sc i j=>exact (dR (s:=⟨dH 0 (AV.ptr 0 0::as),[some cs]⟩) (hw i)).2 j
  |c d j=>
    refine Fs fun ds hd=>?_;cases d with
    |zero=>simp[aJ] at hd; subst hd; exact hpc
    |succ d=>simp[aJ] at hd
 have oV:as.length+1=vargs.size:=by simpa using hA.1
 have MB:SB (fun g0=>X g0\/(bQ φ g0/\g0≠g)) [some (g,sz)] w (fun _=>0) 1 ⟨dH 0 (AV.ptr 0 0::as),[some cs]⟩ (fun i=>vargs.getD i undef):=by
  refine⟨⟨fun _=>0,fun _=>none⟩,[some cs],⟨fun i=>?_,fun i=>?_,hh,fun p k xs e=>?_,fun d ds e=>?_,fun p q n e1=>?_,fun d p _ e1=>?_,fun d e0 e1 e2 _=>?_⟩,fun b hb=>rfl,by simp⟩
  ·show bO _ _ (lT _ i (get (dH 0 (AV.ptr 0 0::as)) i)) _;rcases Lp i with⟨e,rfl⟩|hp
   ·rw[e];obtain⟨v0,TO⟩:=bX (l:=vargs) (i:=0) (by omega);have r0:=hA.2 0 _ v0 rfl TO;rw[bh,TO];simp only[gL,cS] at r0;cases r0 with
    |ptr _ _ _ ad iE h'=>
      refine .ptr _ _ _ _ (by simp) fun g0 z e=>?_;simp at e;obtain⟨rfl,rfl⟩:=e;exact h' g sz g1
   ·rw[yO _ _ hp];cases i with
    |zero=>rw[BU] at hp; simp[pl] at hp
    |succ i=>
      rw[BU] at hp ⊢;simp only[pq] at hp ⊢;cases e:as[i]? with
      |none=>exact .any _ _
      |some y=>
        rw[e] at hp;simp only[dY] at hp ⊢;obtain⟨v,hv⟩:=bX (l:=vargs) (i:=i+1) (by have:=ak e; omega);have r0:=hA.2 (i+1) y v (by simpa using e) hv;rw[AD N hp] at r0;rw[bh,hv];exact (r0.dD (fQ _ hp) _).mono rdin (.refl _)
  ·show cP _ _ (get (dH 0 (AV.ptr 0 0::as)) i);rcases Lp i with⟨e,_⟩|hp
   ·rw[e]; simp[cP]
   ·exact vK _ hp
  ·rw[iv] at e; cases e
  ·cases d with
   |succ d=>simp[aJ] at e
   |zero=>
     simp[aJ] at e;subst e;exact⟨cs,rfl,rfl,fun j d hd=>⟨vK _ (fR hpc j d hd),d,hd,by rw[sT _ _ (fR hpc j d hd)]; exact Le.refl _⟩⟩
  ·rw[iv] at e1; cases e1
  ·rw[iv] at e1; cases e1
  ·cases d with
   |succ d=>simp[aJ] at e1
   |zero=>cases e0 with
     |succ d=>simp[aJ] at e2
     |zero=>rfl
 have jL:=dW f md q hf (AV.ptr 0 0::as) [some cs] v [some cs'] (.inl jz) hc (fun _=>by simp[kg,AL _ Wy,Ai]) _ _ w (fun _=>0) vargs (by simpa using hA.1) MB (fun g0=>(hg g0).mono rdin (.refl _));intro K Q hK;unfold Oper.wp;rw[oW,Oper.upon_enter];refine jL.mono ?_;rintro e w1 ⟨v',lV,rfl,⟨N1,H1,fY,BV,_⟩,ad⟩;obtain⟨as1,c1,c2,c3⟩:=fY.box 0 cs' rfl;rw[BV 0 (by simp)] at c1;obtain⟨g',pg,uc,te1,k1,k2,k3,k4,k5,k6⟩:=fY.heap.at c1;have hgg:=ad.ZM.MQ 0 _ (by simp) k1;simp at hgg;obtain⟨rfl,rfl⟩:=hgg;have ow2:bQ lV g:=⟨0,sz,k1⟩;have air:∀a u,Rd (fun g0=>X g0\/(bQ φ g0/\g0≠g)) lV w1 a u->Rd X φ w1 a u:=fun a u ⟨h1,h2,h3⟩=>⟨fun h=>h1 (.inl h),fun ho=>h1 (.inr ⟨ho,fun e=>h2 (by rw[e]; exact ow2)⟩),h3⟩;have nZ:fg φ w φ w1:=⟨ad.os,ad.tape,ad.output,ad.drawn,ad.size,fun g0 bF hno'=>⟨(ad.keep g0 bF (fun ho=>hno' (by rw[ow _ ho]; exact og))).1,hno'⟩,.refl _⟩
 have hh2:cj X φ w1 (Ha.set (N.β b) (some cs')):=by
  refine⟨by simp[h.heap.len],fun g0 h0=>eY (h.heap.Gg g0 h0) ad.size,fun m ds hm=>?_,fun m hm=>?_,h.heap.inj⟩
  ·rw[aR] at hm;split at hm
   ·rename_i e;subst e;split at hm
    ·simp at hm;subst hm;refine⟨g,sz,uc,te1,g1,k2,k3,⟨by omega,fun z=>by omega⟩,g5,fun j d hd=>?_⟩;obtain⟨_,a',IK,hle⟩:=c3 j d hd;obtain⟨u,u1,u2⟩:=k6 j a' IK;have hpd:=fR Wy j d hd;rw[sT N1 _ hpd] at hle;exact⟨u,u1,((hle _ _ _ u2).dD (fQ _ hpd) _).mono air (.refl _)⟩
    ·cases hm
   ·rename_i qd;obtain⟨g0,sJ,UH,e0,p1,p2,p3,p4,p5,p6⟩:=h.heap.live m ds hm;have hg0:g0≠g:=fun e=>qd (h.heap.inj _ _ _ _ _ g1 (e▸p1));refine⟨g0,sJ,UH,e0,p1,?_,p3,p4,p5,fun j d hd=>?_⟩
    ·rw[(ad.keep g0 (dV.1 p2).1 (fun ho=>hg0 (ow _ ho))).1]; exact p2
    ·obtain⟨u,u1,u2⟩:=p6 j d hd;exact⟨u,u1,nZ.rep u2⟩
  ·rw[aR] at hm;split at hm
   ·split at hm<;>simp at hm
   ·exact h.heap.dead m hm
 have hlen:(s.H.set b (some cs')).length=s.H.length:=by simp
 have PC:eW X φ w1 N ⟨s.env,s.H.set b (some cs')⟩ (Ha.set (N.β b) (some cs')) (tm a):=h.PD hb hpc Wy nZ hh2 (by rw[dz,if_pos ⟨rfl,dL b1⟩]) fun m hm=>by rw[dz,if_neg (fun h=>hm h.1)]
 have hno2:=tr hpr;have r0:=fY.env 0;simp only[Am.get,if_true] at r0;rw[yO N1 0 hpr] at r0;refine hK v' w1 φ (dU.quiet PC ⟨EE.1,by show base<=(s.H.set b (some cs')).length; rw[hlen]; exact EE.2⟩ (vK v hpr) (nU hno2) ?_) nZ;rw[nq N hno2,l9 N _ hpr];exact (r0.dD (fQ _ hpr) _).mono air (.refl _)
theorem akk (dm:fj P c) (dW:iw P c call) {X:Nat->Prop} {φ:dj} {w:World} {B:Nat->Nat} {base:Nat} {s s1:St} {o:Oper} {a:Act} {v:AV} {fq:Fq} {f i:Nat} {es:List E} (hk:cX P o.op (mV (.call f es))=true) (h:SB X φ w B base s (tm a)) (hg:Am.dX (hU c) X φ w) (hs:SM c call f i s (dC c s.env es)=some (v,s1,fq)):nh P X φ w B base s1 v o a:=by
 unfold SM at hs;split at hs
 case h_2=>cases hs
 rename_i md q k p len hf Lt;split at hs
 case h_2=>cases hs
 rename_i k' xs hp;split at hs
 case isFalse=>cases hs
 rename_i hc;obtain⟨jz,rfl,rfl,oi⟩:=hc;split at hs
 case h_2=>cases hs
 rename_i k2 ys H' II;simp only[af,aC] at hs;obtain⟨rfl,rfl,_⟩:=hs;obtain⟨N,Ha,h,hb⟩:=h;obtain⟨vargs,oW,hA,Bt⟩:=nV (kd:=.call f es) (args:=dC c s.env es) dm h hg hk rfl hf;generalize dC c s.env es=args at Lt oi II hA Bt;have hil:i<args.length:=ak Lt;have eU:=h.own p k' xs hp;have hpo:(az s p).isSome:=by rw[hp]; rfl
 obtain⟨vi,hvi⟩:=bX (l:=vargs) (i:=i) (by have:=hA.1; omega);have ri:=hA.2 i _ vi Lt hvi;simp only[gL,cS,qU] at ri
 -- the other arguments
 have oth:∀(j:Nat) (x:AV) (u:Value),j≠i->((args.map eK).set i (.own k' xs))[j]?=some x->vargs[j]?=some u->pl x=true/\bO (Rd X φ w) [] x u:=by
  intro j x u hj hx hu;rw[cQ (jF hj),cn] at hx;cases haj:args[j]? with
  |none=>rw[haj] at hx; cases hx
  |some y=>
    rw[haj] at hx;simp at hx;subst hx;have hpy:=fR oi j (eK y) (by rw[cQ (jF hj),cn,haj]; rfl);refine⟨hpy,?_⟩;have r0:=hA.2 j y u haj hu;by_cases ho:∃k,y=.own k []
    ·obtain⟨k,rfl⟩:=ho;simp only[gL] at r0;cases r0;exact .lx _ _
    ·have hn:eK y=y:=by
      unfold eK;split
      ·rename_i k; exact absurd ⟨k,rfl⟩ ho
      ·rfl
     rw[hn] at hpy ⊢;have hy:gL N y=y:=by cases y<;>first|exact l9 N _ hpy|(simp[pl] at hpy; done)
     rw[hy] at r0;exact r0.dD (fQ _ hpy) []
 have BU:∀j,Am.get (dH 0 ((args.map eK).set i (.own k' xs))) j=((args.map eK).set i (.own k' xs))[j]?.getD .any:=fun j=>by rw[sZ]; simp
 have hgii:Am.get (dH 0 ((args.map eK).set i (.own k' xs))) i=.own k' xs:=by rw[BU,aR]; simp[hil]
 have A5:∀j,j≠i->pl (Am.get (dH 0 ((args.map eK).set i (.own k' xs))) j)=true:=by
  intro j hj;rw[BU];cases e:((args.map eK).set i (.own k' xs))[j]? with
  |none=>rfl
  |some x=>
    rw[cQ (jF hj)] at e;exact fR oi j x (by rw[cQ (jF hj)]; exact e)
 have aeO:∀p',(az ⟨dH 0 ((args.map eK).set i (.own k' xs)),[]⟩ p').isSome->p'=.s i:=by
  intro p' e;cases p' with
  |s j=>
    by_cases hj:j=i
    ·rw[hj]
    ·rw[(dR (s:=⟨dH 0 ((args.map eK).set i (.own k' xs)),[]⟩) (tr (A5 j hj))).1] at e; cases e
  |sc j l=>
    by_cases hj:j=i
    ·subst hj;unfold az at_ at e;simp only[hgii] at e;cases e
    ·rw[(dR (s:=⟨dH 0 ((args.map eK).set i (.own k' xs)),[]⟩) (tr (A5 j hj))).2 l] at e; cases e
  |c b j=>unfold az at e; simp[at_,aJ] at e
 have ak2:az ⟨dH 0 ((args.map eK).set i (.own k' xs)),[]⟩ (.s i)=some (k',xs):=by
  unfold az at_;simp only[hgii]
 -- the callee's state, with the block that goes over, or none
 have start:∀(og:Option Nat) (X':Nat->Prop) (φc:dj) (Hac:Heap) (ν:Option Nat),(∀a u,Rd X φ w a u->Rd X' φc w a u)->cj X' φc w Hac->qQ Hac ν k' xs->bO (Rd X' φc w) φc (match ν with
   |some n=>.sl k' n 0 xs.length
   |none=>.du) vi->SB X' φc w (fun _=>0) 0 ⟨dH 0 ((args.map eK).set i (.own k' xs)),[]⟩ (fun j=>vargs.getD j undef):=by
  intro og X' φc Hac ν wO hh ho rv;refine⟨⟨fun _=>0,fun p'=>if p'=.s i then ν else none⟩,Hac,⟨fun j=>?_,fun j=>?_,hh,fun p' k0 xs0 e=>?_,fun b cs e=>by simp[aJ] at e,fun p' q' m e1 e2=>?_,fun b p' e1=>by simp[aJ] at e1,fun b d e1=>by simp[aJ] at e1⟩,fun b hb=>by omega,jN _⟩
  ·by_cases hj:j=i
   ·subst hj;rw[hgii];simp only[lT,jx,rU,if_true];rw[bh,hvi];exact rv
   ·rw[yO _ _ (A5 j hj)];rw[BU];cases e:((args.map eK).set i (.own k' xs))[j]? with
    |none=>exact .any _ _
    |some x=>
      have hjl:=ak e;simp at hjl;obtain⟨u,hu⟩:=bX (l:=vargs) (i:=j) (by have:=hA.1; omega);simp only[dY];rw[bh,hu];obtain⟨hpx,rx⟩:=oth j x u hj e hu;exact ((rx.mono wO (.refl _)).dD (fQ _ hpx) _)
  ·by_cases hj:j=i
   ·subst hj; show cP _ _ (Am.get _ j); rw[hgii]; trivial
   ·exact vK _ (A5 j hj)
  ·have:=aeO p' (by rw[e]; rfl);subst this;rw[ak2] at e;cases e;simp only[if_true];exact ho
  ·rw[aeO p' e1,aeO q' e2]; exact fun _ _=>rfl
 -- the end
 have fin:∀(n:Nat) (og:Option Nat) (X':Nat->Prop) (φc:dj),(∀g,og=some g->∃sz,φ[n]?=some (some (g,sz)))->(og=none->φ.length<=n)->(N.ν p=some n\/φ.length<=n)->(∀g,X g->X' g)->(∀g,bQ φ g->og≠some g->X' g)->(∀g,bQ φc g->og=some g)->∀{e:Ending} {w1:World},Io X' φc w (fun _=>0) 0 (.own k2 ys) H' e w1->∃v',e=.returned v'/\∃ lV,dU X lV w1 B base (setAt (cB (sw p) s) p .any) (.own k2 ys) (tm a) v'/\fg φ w lV w1:=by
  intro n og X' φc h1 h2 hn hX hX2 hφc e w1 hr;obtain⟨v',lV,rfl,⟨N1,H1,fY,_⟩,ad⟩:=hr;have EC:∀g,g<w.heap.size->og≠some g->w1.heap[g]?=w.heap[g]?/\¬ bQ lV g:=fun g bF hg=>ad.keep g bF fun ho=>hg (hφc g ho);have ho1:az ⟨[(0,.own k2 ys)],H'⟩ (.s 0)=some (k2,ys):=rfl;have TQ:=fY.own (.s 0) k2 ys ho1;have r0:=fY.env 0;simp only[Am.get,if_true,lT,jx,rU] at r0;cases lF:N1.ν (.s 0) with
  |none=>
    rw[lF] at TQ r0;have hy0:ys=[]:=TQ;subst hy0;simp only at r0;cases r0;obtain⟨hh,ad2⟩:=abR h.heap h1 (fun g bF hg=>(EC g bF hg).1) ad.os ad.tape ad.output ad.drawn ad.size;have PC:=h.M9 hp ad2 hh hn fun m E5 _=>by unfold aJ; rw[cQ (jF E5)]
    obtain⟨_,_,d3⟩:=h.drop hp;exact⟨_,rfl,_,dU.quiet PC ⟨hb.1,by rw[d3.len]; exact hb.2⟩ trivial rfl (.du _),ad2⟩
  |some n1=>
    rw[lF] at TQ r0;simp only at r0;obtain⟨g',pg,hφ1,hX1,iS⟩:=sV fY.heap TQ;obtain⟨cs,c1,c2,c3,c4⟩:=TQ;obtain⟨g3,sz3,arr,te,f1,f2,f3,f4,f5,f6⟩:=fY.heap.cat c1 (fun g sz q=>r0.yR q);rw[hφ1] at f1;cases f1
    have hys:(∀y∈ys,y.cells.length=k2)/\∀ y∈ys,∀d∈y.cells,fz d=true:=by
     refine⟨c3,fun y hy d hd=>?_⟩;obtain⟨i',wS⟩:=bE hy;obtain⟨j,hj⟩:=bE hd;obtain⟨_,_,q,_⟩:=iS i' j y d wS hj;exact q
    have hgo1:og=some g'\/w.heap.size<=g':=by
     by_cases bF:g'<w.heap.size
     ·left;apply qp;intro qd;exact (EC g' bF qd).2 ⟨n1,pg,hφ1⟩
     ·right; omega
    generalize hv:v'=vv at r0;cases r0 with
    |sl _ _ _ _ _ ad0 cap iE iC hh=>
      obtain⟨M5,ha2⟩:=hh g' pg hφ1;subst hv;refine agD (T:=fun g2 _ a u=>Rd X' lV w1 a u/\a.block≠g2) h hb hp h1 h2 hn hys (.inl ⟨g',cap,arr,te,ad0,rfl,M5,iC,by omega,f2,fun i' d hd=>?_,hgo1,fun g bF hg=>(EC g bF hg).1,ad.os,ad.tape,ad.output,ad.drawn,ad.size⟩) ?_
      ·obtain⟨i2,z,j,z1,z2,z3⟩:=(fx c3).2 i' d hd;obtain⟨u,u1,u2,u3⟩:=iS i2 j z d z1 z2;refine⟨u,by rw[gg f2] at u1; rw[z3]; exact u1,u3.mono (fun a u hr=>⟨hr,fun e=>hr.2.1 ⟨n1,pg,by rw[e]; exact hφ1⟩⟩) (.refl _)⟩
      ·rintro g2 sz2 a u ⟨⟨q1,q2,q3⟩,q4⟩;refine⟨fun hx=>q1 (hX _ hx),fun ho=>?_,q3⟩;rcases sM ho with ho|ho
       ·refine q1 (hX2 _ (vH ho) fun e=>?_);obtain⟨sz,e2⟩:=h1 _ e;obtain⟨b,sJ,e3⟩:=ho;rw[aR] at e3;split at e3
        ·split at e3<;>simp at e3
        ·rename_i qd;exact qd (h.heap.inj n b _ _ _ e2 e3)
       ·exact q4 ho
 cases lF:N.ν p with
 |none=>
   rw[lF] at eU ri;have yx:xs=[]:=eU;subst yx;have jL:=dW f md q hf _ [] _ H' (.inr rfl) II (fun e=>by rw[jz] at e; cases e) (fun g=>X g\/bQ φ g) [] w (fun _=>0) vargs (by simpa using hA.1) (start none (fun g=>X g\/bQ φ g) [] [] none (fun a u ⟨h1,h2,h3⟩=>⟨fun h=>h.elim h1 h2,bQ.nil _,h3⟩) ⟨rfl,fun g hg=>hg.elim (h.heap.Gg g) (fun ho=>(h.heap.gJ ho).1),fun b cs hb=>by simp at hb,fun b hb=>by simp at hb,fun b b' g sz pg h1=>by simp at h1⟩ rfl (by cases ri; exact .du _)) (WJ hg fun g h=>h);intro K Q hK;unfold Oper.wp;rw[oW,Oper.upon_enter];refine jL.mono ?_;intro e w1 hr;obtain⟨v',rfl,lV,wP,ad⟩:=fin φ.length none _ [] (fun _ h=>by cases h) (fun _=>aO _) (.inr (aO _)) (fun g h=>.inl h) (fun g h _=>.inr h) (fun g h=>(bQ.nil g h).elim) hr;exact hK v' w1 lV wP ad
 |some n=>
   rw[lF] at eU ri;obtain⟨g2,sz2,TL,hX2,hc3⟩:=sV h.heap eU;obtain⟨cs,c1,c2,c3,c4⟩:=eU;obtain⟨g3,sz,arr,te,b1,b2,b3,b4,b5,b6⟩:=h.heap.cat c1 (fun g sz q=>ri.yR q);rw[TL] at b1;cases b1
   have one:∀g,bQ [some (g2,sz2)] g->g=g2:=by
    rintro g ⟨b,s0,e⟩;cases b with
    |zero=>simp at e; exact e.1.symm
    |succ b=>simp at e
   have wO:∀a u,Rd X φ w a u->Rd (fun g=>X g\/(bQ φ g/\g≠g2)) [some (g2,sz2)] w a u:=fun a u ⟨h1,h2,h3⟩=>⟨fun h=>h.elim h1 fun q=>h2 q.1,fun ho=>h2 ⟨n,sz2,by rw[one _ ho]; exact TL⟩,h3⟩
   have hh:cj (fun g=>X g\/(bQ φ g/\g≠g2)) [some (g2,sz2)] w [some (aA xs)]:=by
    refine⟨rfl,fun g hg=>hg.elim (h.heap.Gg g) (fun ho=>(h.heap.gJ ho.1).1),fun b ds hb=>?_,fun b hb=>?_,fun b b' g sz pg e1 e2=>?_⟩
    ·cases b with
     |succ b=>simp at hb
     |zero=>
       simp at hb;subst hb;refine⟨g2,sz2,arr,_,rfl,b2,.inl ⟨te,rfl,b3⟩,⟨by rw[gN c3]; omega,fun z=>by omega⟩,fun h=>h.elim hX2 fun q=>q.2 rfl,fun i' d hd=>?_⟩;obtain⟨i2,z,j,z1,z2,z3⟩:=(fx c3).2 i' d hd;obtain⟨u,u1,u2,u3⟩:=hc3 i2 j z d z1 z2;exact⟨u,by rw[gg b2] at u1; rw[z3]; exact u1,(u3.mono wO (.refl _)).HH _⟩
    ·cases b with
     |succ b=>simp at hb
     |zero=>simp at hb
    ·cases b with
     |succ b=>simp at e1
     |zero=>cases b' with
       |succ b'=>simp at e2
       |zero=>rfl
   have Qq:Am.dX (hU c) (fun g=>X g\/(bQ φ g/\g≠g2)) [some (g2,sz2)] w:=fun g=>(hg g).mono wO (.refl _)
   have ho':qQ [some (aA xs)] (some 0) k' xs:=⟨aA xs,rfl,by rw[gN c3]; exact aO _,c3,fun i' d hd=>by
    obtain⟨i2,z,j,z1,z2,z3⟩:=(fx c3).2 i' d hd;obtain⟨u,u1,u2,u3⟩:=hc3 i2 j z d z1 z2;exact⟨u2,d,hd,(mh u2).2,Le.refl _⟩⟩
   have rv:bO (Rd (fun g=>X g\/(bQ φ g/\g≠g2)) [some (g2,sz2)] w) [some (g2,sz2)] (.sl k' 0 0 xs.length) vi:=by
    simp only at ri;generalize vi=vv at ri;cases ri with
    |sl _ _ _ _ _ ad cap iE iC hh'=>
      obtain⟨M5,ha2⟩:=hh' g2 sz2 TL;refine .sl _ _ _ _ _ _ _ (by simp) iC fun g0 sJ e0=>?_;simp at e0;obtain⟨rfl,rfl⟩:=e0;exact⟨M5,ha2⟩
   have jL:=dW f md q hf _ [] _ H' (.inr rfl) II (fun e=>by rw[jz] at e; cases e) _ _ w (fun _=>0) vargs (by simpa using hA.1) (start (some g2) _ _ _ (some 0) wO hh ho' rv) Qq;intro K Q hK;unfold Oper.wp;rw[oW,Oper.upon_enter];refine jL.mono ?_;intro e w1 hr;obtain⟨v',rfl,lV,wP,ad⟩:=fin n (some g2) _ [some (g2,sz2)] (fun g e=>by cases e; exact⟨sz2,TL⟩) (fun e=>by cases e) (.inl lF) (fun g h=>.inl h) (fun g h qd=>.inr ⟨h,fun e=>qd (by rw[e])⟩) (fun g h=>by rw[one g h]) hr;exact hK v' w1 lV wP ad
theorem AE {s s1:St} {kd:Kd} {v:AV} {f:Fq} (h:Fb c call s kd=some (v,s1,f)):f=.all/\aS v=[]:=by unfold Fb at h;cases h
theorem XN {s:St} {kd:Kd} {x:AV × St × Fq} (h:Fb c call s kd=some x):∃n args H r H',call n args H=some (r,H')/\∀ g:Nat->List AV->Heap->Option (AV × Heap),g n args H=some (r,H')->Fb c g s kd=some x:=by unfold Fb at h;cases h
theorem acr {s:St} {kd:Kd} {x:AV × St × Fq} (h:Fb c call s kd=some x) (g:Nat->List AV->Heap->Option (AV × Heap)):eL c g kd s=none:=by unfold Fb at h;cases h
theorem jM {s s1:St} {kd:Kd} {v:AV} {f:Fq} (h:uF c call kd s=some (v,s1,f)):eL c call kd s=some (v,s1,f)\/Fb c call s kd=some (v,s1,f):=by
 unfold uF at h;split at h
 ·rename_i x hx;rw[hx];exact .inl h
 ·exact .inr h
theorem tE {s:St} {kd:Kd} {x:AV × St × Fq} (h:eL c call kd s=some x):uF c call kd s=some x:=by
 unfold uF;rw[h]
theorem LL {s:St} {kd:Kd} {x:AV × St × Fq} (h:Fb c call s kd=some x):uF c call kd s=some x:=by
 unfold uF;rw[acr h];exact h
theorem aki (dm:fj P c) (dW:iw P c call) {X:Nat->Prop} {φ:dj} {w:World} {B:Nat->Nat} {base:Nat} {s s1:St} {o:Oper} {a:Act} {kd:Kd} {v:AV} {fq:Fq} (hk:cX P o.op (mV kd)=true) (h:SB X φ w B base s (tm a)) (hg:Am.dX (hU c) X φ w) (hs:Fb c call s kd=some (v,s1,fq)):nh P X φ w B base s1 v o a:=by unfold Fb at hs;cases hs
theorem KG (dm:fj P c) (pW:v8 P c) (dW:iw P c call) (jz:Mu P c call) {X:Nat->Prop} {φ:dj} {w:World} {B:Nat->Nat} {base:Nat} {s s1:St} {o:Oper} {a:Act} {kd:Kd} {v:AV} {fq:Fq} (hk:cX P o.op (mV kd)=true) (h:SB X φ w B base s (tm a)) (hg:Am.dX (hU c) X φ w) (hs:dF c call kd s=some (v,s1,fq)):nh P X φ w B base s1 v o a:=by
 unfold dF at hs;cases hi:rV c s kd with
 |none=>
   rw[hi] at hs;cases hl:po c call s kd with
   |none=>
     rw[hl] at hs;simp only[gG] at hs;cases hm:vc c call s kd with
     |none=>
       rw[hm] at hs;rcases jM hs with hs|hs
       ·exact abH dm dW jz hk h hg hs
       ·exact aki dm dW hk h hg hs
     |some r=>
       rw[hm] at hs;simp only at hs;subst hs;unfold vc at hm;split at hm
       case h_2=>cases hm
       rename_i f es;split at hm
       case h_2=>cases hm
       rename_i i hi;simp only[af] at hm;obtain⟨lV,h1,a1⟩:=SB.eE (dn ((dC c s.env es).set i .undef)) h;exact nh.ghost a1 (akk dm dW hk h1 (hg.nZ a1) hm)
   |some r=>
     rw[hl] at hs;simp only at hs;subst hs;exact akn dm dW hk h hg hl
 |some r=>
   rw[hi] at hs;simp only at hs;subst hs;exact akt dm pW hk h hg hi
theorem aiR (dm:fj P c) (pW:v8 P c) (dW:iw P c call) (jz:Mu P c call):Pk P c call:=by
 intro X φ w B base s o a kd v s1 f hk hs h hg;cases hc:oU kd with
 |false=>exact ake dm.mixed h hg hk hc hs
 |true=>
   cases kd<;>simp[oU] at hc
   ·simp only[fk] at hs; exact KG dm pW dW jz hk h hg hs
   ·simp only[fk] at hs; exact KG dm pW dW jz hk h hg hs
end
end Go.Bm

/- A call of a function of the program, from a world of which nothing is known but how the arguments read; given what is still to be shown. -/
namespace Go.Bm
open Go.Am
section
variable {P:Program} {c:eI}
theorem Vx (dm:fj P c) (pW:v8 P c) (wQ:xl P c) (hshc:∀call,iw P c call->Mu P c call) (hdr:∀call,iw P c call->Mv P c call) (jz:∀n,UQ P c n->ShOK P c n) (n:Nat):UQ P c n:=
 I9 (fun call hc=>aiR dm pW hc (hshc call hc)) hdr (fun n hs=>O7 dm wQ hs (jz n hs)) n
theorem ab7 (dm:fj P c) {call:Nat->List AV->Heap->Option (AV × Heap)} (dW:iw P c call) {f:Nat} {md:Md} {q:fW} (hf:c.fn f=some (md,q)) (jz:md.sh=false) {args:List AV} (hz:dq args=true) {r:AV} {H':Heap} (h:call f args []=some (r,H')) (hr:pl r=true) {w:World} {vargs:Array Value}
  (ha:ud (fun _=>False) [] w args vargs) (hg:Am.dX (hU c) (fun _=>False) [] w):Calls P f vargs w (fun e w'=>∃v,e=.returned v/\bO (Rd (fun _=>False) [] w') [] r v/\RowKit.Below w.heap.size w w'):=by
 have MB:=SB.start (X:=fun _=>False) (w:=w) (args:=args) (vargs:=vargs) (fun g hg=>hg.elim) hz ha.1 ha.2 (fun _=>0);refine (dW f md q hf args [] r H' (.inr rfl) h (fun e=>by rw[jz] at e; cases e) (fun _=>False) [] w (fun _=>0) vargs ha.1 MB hg).mono ?_;rintro e w1 ⟨v',lV,rfl,⟨N1,H1,fY,_⟩,a1⟩;have r0:=fY.env 0;simp only[Am.get,if_true] at r0;rw[yO N1 0 hr] at r0;refine⟨v',rfl,(r0.dD (fQ _ hr) []).mono (fun a u ⟨h1,_,h3⟩=>⟨h1,bQ.nil _,h3⟩) (.refl _),a1.os,a1.tape,a1.output,a1.size,fun k hk=>(a1.keep k hk (bQ.nil k)).1⟩
theorem afJ {φ':dj} {w w':World} (a:fg [] w φ' w'):∃q os,w'=Pu (w.drewN q) os:=by
 refine⟨w'.drawn-w.drawn,w'.heap.extract w.heap.size w'.heap.size,?_⟩;have hd:=a.drawn;have hs:=a.size
 have hh:w'.heap=w.heap++w'.heap.extract w.heap.size w'.heap.size:=by
  apply Array.ext_getElem?;intro k;rw[Array.getElem?_append];split
  ·rename_i h;exact (a.keep k h (bQ.nil k)).1
  ·rename_i h;rw[Array.getElem?_extract];by_cases h2:k<w'.heap.size
   ·rw[if_pos (by omega),show w.heap.size+(k-w.heap.size)=k by omega]
   ·rw[if_neg (by omega),Q9 (by omega)]
 have h1:=a.os;have h2:=a.tape;have h3:=a.output;obtain⟨TP,tp',dr',os',ou'⟩:=w';obtain⟨hp,tp,dr,os,ou⟩:=w;simp only at hh hd h1 h2 h3;subst h1; subst h2; subst h3;unfold Pu World.drewN;simp only[World.mk.injEq,and_true,true_and];exact⟨hh,by omega⟩
theorem Xi (dm:fj P c) {call:Nat->List AV->Heap->Option (AV × Heap)} (dW:iw P c call) {f:Nat} {md:Md} {q:fW} (hf:c.fn f=some (md,q)) (jz:md.sh=false) {args:List AV} (hz:dq args=true) {r:AV} {H':Heap} (h:call f args []=some (r,H')) (hr:pl r=true) {w:World} {vargs:Array Value}
  (ha:ud (fun _=>False) [] w args vargs) (hg:Am.dX (hU c) (fun _=>False) [] w):Calls P f vargs w (fun e w'=>∃v,e=.returned v/\bO (Rd (fun _=>False) [] w') [] r v/\∃ q os,w'=Pu (w.drewN q) os):=by
 have MB:=SB.start (X:=fun _=>False) (w:=w) (args:=args) (vargs:=vargs) (fun g hg=>hg.elim) hz ha.1 ha.2 (fun _=>0);refine (dW f md q hf args [] r H' (.inr rfl) h (fun e=>by rw[jz] at e; cases e) (fun _=>False) [] w (fun _=>0) vargs ha.1 MB hg).mono ?_;rintro e w1 ⟨v',lV,rfl,⟨N1,H1,fY,_⟩,a1⟩;have r0:=fY.env 0;simp only[Am.get,if_true] at r0;rw[yO N1 0 hr] at r0;exact⟨v',rfl,(r0.dD (fQ _ hr) []).mono (fun a u ⟨h1,_,h3⟩=>⟨h1,bQ.nil _,h3⟩) (.refl _),afJ a1⟩
end
end Go.Bm

/- Regions that draw their order: it makes no difference, given that two steps whose order is open commute. -/
namespace Go.Bm
open Go.Am
section
variable {P:Program} {c:eI} {call:Nat->List AV->Heap->Option (AV × Heap)} {T:St->O->Fq->St->Prop}
abbrev EntB:=Nat × Oper × O × Fq
def Xr (P:Program) (c:eI) (T:St->O->Fq->St->Prop):Prop:=
 ∀ X φ w B base N ops s s' (o:Oper) a q f,N<=fw->QD P N ops o (Uo q)=true->T s q f s'->E0 X φ w B base s a N->Am.dX (hU c) X φ w->∀(K:Act->World->Prop) (Q:Exit->Act->World->Prop),(∀a' w' φ',E0 X φ' w' B base s' a' N->fg φ w φ' w'->K a' w') ->
  if Region.wanted o (yielded ops a.tmps) then o.wp P a w K Q\/(o.asks P a w/\LetsOut Q) else K (a.put o.dst Go.undef) w
def UT (T:St->O->Fq->St->Prop):Prop:=
 ∀ s x f s1 y g s2,T s x f s1->T s1 y g s2->jZ x y=true->jq x f y g=true->∃ML,T s y g ML/\T ML x f s2
def QO (T:St->O->Fq->St->Prop):List EntB->St->St->Prop
 |[],s,sf=>s=sf
 |p::r,s,sf=>∃s1,T s p.2.2.1 p.2.2.2 s1/\QO T r s1 sf
theorem QO.QE (hC:UT T) {x:EntB}:∀{R1 R2:List EntB} {s sf:St},(∀p∈R1,jZ p.2.2.1 x.2.2.1=true/\jq p.2.2.1 p.2.2.2 x.2.2.1 x.2.2.2=true)->QO T (R1++x::R2) s sf->QO T (x::(R1++R2)) s sf
 |[],R2,s,sf,_,hr=>hr
 |p::R1,R2,s,sf,h,⟨s1,h1,h2⟩=>by
   obtain⟨s2,h3,h4⟩:=QO.QE hC (fun q hq=>h q (by simp[hq])) h2;obtain⟨FW,hf⟩:=h p (by simp);obtain⟨ML,k1,k2⟩:=hC _ _ _ _ _ _ _ h1 h3 FW hf;exact⟨ML,k1,s2,k2,h4⟩
theorem aij (hT:Xr P c T) (hC:UT T) {X:Nat->Prop} {B:Nat->Nat} {base N:Nat} (hN:N<=fw) {ops:Array Oper} {Q:Exit->Act->World->Prop} {sf:St} :
  ∀ (fuel:Nat) (R:List EntB) (listed:Array Bool) (a:Act) (w:World) (φ:dj) (s:St),R.length=fuel->(∀i,listed.getD i true=false ↔ ∃p∈R,p.1=i)->listed.size=ops.size ->
   Xy ops listed->(∀p∈R,ops[p.1]?=some p.2.1/\QD P N ops p.2.1 (Uo p.2.2.1)=true/\∀ e∈p.2.1.after,Region.binds .any e=true->e.on<p.1) ->
   R.Pairwise (fun p q=>p.1<q.1/\(Anc ops p.1 q.1\/(jZ p.2.2.1 q.2.2.1=true/\jq p.2.2.1 p.2.2.2 q.2.2.1 q.2.2.2=true)))->QO T R s sf->E0 X φ w B base s a N->Am.dX (hU c) X φ w ->
   (∀a' w' φ',E0 X φ' w' B base sf a' N->fg φ w φ' w'->Q .normal a' w')->wpAny P .any ops Q fuel listed a w:=by
 have fin:∀{a:Act} {w:World} {φ:dj} {s:St},QO T [] s sf->E0 X φ w B base s a N->(∀a' w' φ',E0 X φ' w' B base sf a' N->fg φ w φ' w'->Q .normal a' w')->Q .normal a w:=by
  intro a w φ s hr hs hQ;obtain rfl:s=sf:=hr;exact hQ a w φ hs (.refl _ _)
 intro fuel
 induction fuel with
 |zero=>
   intro R listed a w φ s hl hls _ _ _ _ hr hs hg hQ;have hR:R=[]:=eC hl;subst hR;refine⟨?_,fin hr hs hQ⟩;rw[List.eq_nil_iff_forall_not_mem];intro i hi;obtain⟨h1,_⟩:=mem_ready.1 hi;obtain⟨p,hp,_⟩:=(hls i).1 h1;cases hp
 |succ fuel ih=>
   intro R listed a w φ s hl hls oV II FT hpw hr hs hg hQ;refine⟨fun hnil=>?_,fun i hi=>?_⟩
   ·cases R with
    |nil=>simp at hl
    |cons p r=>
      exfalso;obtain⟨h1,h2,h3⟩:=FT p (by simp)
      have:p.1∈Region.ready .any ops listed:=by
       refine mem_ready.2 ⟨(hls p.1).2 ⟨p,by simp,rfl⟩,p.2.1,h1,fun e he hb=>?_⟩;have bF:=h3 e he hb;cases hv:listed.getD e.on false with
       |true=>rfl
       |false=>
         exfalso
         have WA:e.on<listed.size:=by
          rw[oV];have:=nB h1;omega
         have hv2:listed.getD e.on true=false:=by
          simp[bh,WA] at hv ⊢;exact hv
         obtain⟨q,hq,hq1⟩:=(hls e.on).1 hv2;rcases aG.1 hq with hq|hq
         ·subst hq; omega
         ·have:=(Pq hpw hq).1;omega
      rw[hnil] at this;cases this
   ·obtain⟨hun,o,ho,lG⟩:=mem_ready.1 hi;obtain⟨x,hx,hxi⟩:=(hls i).1 hun;subst hxi;obtain⟨R1,R2,rfl⟩:=List.append_of_mem hx;obtain⟨h1,h2,h3⟩:=FT x (by simp);rw[h1] at ho;simp at ho;subst ho;have hpw':=ue.1 hpw
    have amI:∀p∈R1,jZ p.2.2.1 x.2.2.1=true/\jq p.2.2.1 p.2.2.2 x.2.2.1 x.2.2.2=true:=by
     intro p hp;obtain⟨_,hrel⟩:=hpw'.2.2 p hp x (by simp);rcases hrel with hw|hw
     ·exfalso
      have:=II.EX hw x.2.1 h1 fun k hk=>by
       obtain⟨e,he,hb,heq⟩:=CO.1 hk;rw[<-heq]; exact lG e he hb
      have hf:=(hls p.1).2 ⟨p,by simp[hp],rfl⟩
      have bF:p.1<listed.size:=by
       rw[oV];exact nB (FT p (by simp[hp])).1
      simp[bh,bF] at this hf;rw[this] at hf;cases hf
     ·exact hw
    obtain⟨s1,k1,k2⟩:=QO.QE hC amI hr;unfold wpOp;rw[h1];refine hT X φ w B base N ops s s1 x.2.1 a x.2.2.1 x.2.2.2 hN h2 k1 hs hg _ _ fun a' w' φ' MC wW=>?_
    refine ih (R1++R2) _ a' w' φ' _ (by simp at hl ⊢; omega) (fun j=>?_) (by simpa using oV) (fun j oj hj hlj i hi=>?_) (fun p hp=>FT p (by rcases aF.1 hp with h|h<;>simp[h])) ?_ k2 MC (hg.nZ wW)
     fun a'' w'' qY h'' AX=>hQ a'' w'' qY h'' (wW.trans AX)
    ·have hxlt:x.1<listed.size:=by rw[oV]; exact nB h1
     by_cases hj:j=x.1
     ·subst hj;simp only[bh,Array.getElem?_setIfInBounds_self_of_lt hxlt,dY];refine⟨(fun h=>by cases h),fun⟨p,hp,hpx⟩=>?_⟩;exfalso;rcases aF.1 hp with h|h
      ·have:=(hpw'.2.2 p h x (by simp)).1; omega
      ·have:=(Pq hpw'.2.1 h).1; omega
     ·have qd:x.1≠j:=fun e=>hj e.symm;rw[bh,jd qd,<-bh,hls j];constructor
      ·rintro⟨p,hp,hpj⟩;refine⟨p,?_,hpj⟩;simp at hp ⊢;rcases hp with h|h|h
       ·exact .inl h
       ·subst h; exact absurd hpj.symm hj
       ·exact .inr h
      ·rintro⟨p,hp,hpj⟩;refine⟨p,?_,hpj⟩;simp at hp ⊢;rcases hp with h|h
       ·exact .inl h
       ·exact .inr (.inr h)
    ·have mono:∀k,listed.getD k false=true->(listed.setIfInBounds x.1 true).getD k false=true:=by
      intro k hk;by_cases hkx:x.1=k
      ·subst hkx;have bF:x.1<listed.size:=by rw[oV]; exact nB h1
       simp[bh,bF]
      ·rw[bh,jd hkx,<-bh]; exact hk
     by_cases hjx:x.1=j
     ·subst hjx;rw[h1] at hj;cases hj;obtain⟨e,he,hb,heq⟩:=CO.1 hi;exact mono i (by rw[<-heq]; exact lG e he hb)
     ·refine mono i (II j oj hj ?_ i hi);rw[bh,jd hjx,<-bh] at hlj;exact hlj
    ·refine ue.2 ⟨hpw'.1,(List.pairwise_cons.1 hpw'.2.1).2,fun p hp q hq=>hpw'.2.2 p hp q (by simp[hq])⟩

end
end Go.Bm

/- Regions that draw their order, from the machine's own check. -/
namespace Go.Bm
open Go.Am
section
variable {P:Program} {c:eI} {call:Nat->List AV->Heap->Option (AV × Heap)} {T:St->O->Fq->St->Prop}
def KS:Nat->List Oper->List O->List Fq->List EntB
 |k,o::r,q::s,f::t=>(k,o,q,f)::KS (k+1) r s t
 |_,_,_,_=>[]
theorem vO:∀(k:Nat) (os:List Oper) (qs:List O) (fs:List Fq) (j:Nat) (p:EntB),(KS k os qs fs)[j]?=some p->p.1=k+j/\os[j]?=some p.2.1/\qs[j]?=some p.2.2.1/\fs[j]?=some p.2.2.2
 |k,[],qs,fs,j,p,h=>by simp[KS] at h
 |k,_::_,[],fs,j,p,h=>by simp[KS] at h
 |k,_::_,_::_,[],j,p,h=>by simp[KS] at h
 |k,o::r,q::s,f::t,j,p,h=>by
   simp only[KS] at h;cases j with
   |zero=>simp at h; subst h; exact⟨rfl,rfl,rfl,rfl⟩
   |succ j=>
     simp at h;obtain⟨h1,h2,h3,h4⟩:=vO (k+1) r s t j p h;exact⟨by omega,by simpa using h2,by simpa using h3,by simpa using h4⟩
theorem HI:∀(k:Nat) (os:List Oper) (qs:List O) (fs:List Fq),os.length=qs.length->qs.length=fs.length->(KS k os qs fs).length=os.length
 |k,[],[],[],_,_=>rfl
 |k,o::r,q::s,f::t,h1,h2=>by simp[KS]; exact HI (k+1) r s t (by simpa using h1) (by simpa using h2)
 |_,[],_::_,_,h,_=>by simp at h
 |_,_::_,[],_,h,_=>by simp at h
 |_,[],[],_::_,_,h=>by simp at h
 |_,_::_,_::_,[],_,h=>by simp at h
def afL (c:eI) (call:Nat->List AV->Heap->Option (AV × Heap)) (T:St->O->Fq->St->Prop):Prop:=∀s q f s',BT q.kd=true->uh c call s q=some (s',f)->(qh f=true->T s q f s')/\T s q .all s'
def K4 (un:List (Nat × Nat)):Nat->List Fq->List Fq
 |_,[]=>[]
 |k,f::r=>(if lg k k un then .all else f)::K4 un (k+1) r
theorem HJ (un:List (Nat × Nat)):∀(k:Nat) (fs:List Fq),(K4 un k fs).length=fs.length
 |_,[]=>rfl
 |k,f::r=>by simp[K4,HJ un (k+1) r]
theorem S6 (un:List (Nat × Nat)):∀(k:Nat) (fs:List Fq) (j:Nat),(K4 un k fs)[j]?=(fs[j]?).map fun f=>if lg (k+j) (k+j) un then .all else f
 |_,[],j=>by simp[K4]
 |k,f::r,j=>by
   cases j with
   |zero=>simp[K4]
   |succ j=>simp only[K4,pq,S6 un (k+1) r]; rw[show k+1+j=k+(j+1) by omega]
theorem Sp (hS:afL c call T) (un:List (Nat × Nat)):∀(k:Nat) (os:List Oper) (qs:List O) (s s':St) (rW:List Fq),os.length=qs.length->(∀q∈qs,BT q.kd=true)->oQ c call qs s=some (s',rW)->Mp un k rW=true->qs.length=rW.length/\QO T (KS k os qs (K4 un k rW)) s s'
 |k,[],[],s,s',rW,_,_,h,_=>by simp[oQ] at h; obtain⟨rfl,rfl⟩:=h; exact⟨rfl,rfl⟩
 |k,[],_::_,_,_,_,hl,_,_,_=>by simp at hl
 |k,_::_,[],_,_,_,hl,_,_,_=>by simp at hl
 |k,o::r,q::qs,s,s',rW,hl,hk,h,hn=>by
   simp only[oQ] at h;split at h
   case h_2=>cases h
   rename_i s1 fl1 h1;split at h
   case h_2=>cases h
   rename_i s2 fl2 h2;simp at h;obtain⟨rfl,rfl⟩:=h;simp only[Mp,ae,dT] at hn;obtain⟨hn1,hn2⟩:=hn;obtain⟨h4,h5⟩:=Sp hS un (k+1) r qs _ s2 fl2 (by simpa using hl) (fun q hq=>hk q (by simp[hq])) h2 hn2;refine⟨by simp[h4],s1,?_,h5⟩;have:=hS _ _ _ _ (hk q (by simp)) h1;show T s q (if lg k k un then .all else fl1) s1;split
   ·exact this.2
   ·rename_i hp;exact this.1 (hn1.resolve_right hp)
theorem Ob {s s1:St} {kd:Kd} {v:AV} {f:Fq} (h:fk c call s kd=some (v,s1,f)) (hp:still kd=true):f=.no:=by
 cases kd<;>simp[still] at hp<;>simp only[fk] at h
 all_goals try rw[hp] at h
 all_goals
  (repeat' split at h)
  all_goals first
   |(cases h; done)
   |(rename_i hq; cases hq; done)
   |(simp at h; obtain⟨rfl,rfl,rfl⟩:=h; rfl)
theorem EJ {e:Env} {d:Option Nat} {v:AV} {s s':St} {f g:Fq} (h:EK e d v s f=some (s',g)):g=cm e d f:=by
 unfold EK at h;split at h
 ·simp at h;exact h.2.symm
 ·cases h
theorem Dw {e:Env} {d:Option Nat}:cm e d .no=.no\/cm e d .no=.bo []\/cm e d .no=.sp:=by
 unfold cm;split
 ·exact .inl rfl
 ·split
  ·exact .inr (.inr rfl)
  ·split
   ·exact .inl rfl
   ·exact .inr (.inl rfl)
theorem Rk {s s':St} {q:O} {f:Fq} (h:uh c call s q=some (s',f)) (hp:still q.kd=true):f=.no\/f=.bo []\/f=.sp:=by
 unfold uh at h;split at h
 ·split at h
  ·rename_i v s1 fl ho;rw[Ob ho hp] at h;rw[EJ h]; exact Dw
  ·cases h
 ·split at h
  ·split at h
   ·split at h
    ·rename_i v s1 fl ho;rw[Ob ho hp] at h;rw[EJ h]; exact Dw
    ·cases h
   ·rw[EJ h]; exact Dw
  ·rw[EJ h]; exact Dw
  ·cases h
theorem CD {un:List (Nat × Nat)}:∀{qs:List O} {k:Nat} {s s':St} {rW:List Fq},oQ c call qs s=some (s',rW)->Mp un k rW=true->∀(j:Nat) (q:O) (f:Fq),qs[j]?=some q->rW[j]?=some f->still q.kd=true->lg (k+j) (k+j) un=false->f=.no\/f=.bo []
 |[],_,_,_,_,_,_,j,q,f,hq,_,_,_=>by simp at hq
 |x::r,k,s,s',rW,h,hn,j,q,f,hq,hf,hp,hb=>by
   simp only[oQ] at h;split at h
   case h_2=>cases h
   rename_i s1 fl1 h1;split at h
   case h_2=>cases h
   rename_i s2 fl2 h2;simp at h;obtain⟨rfl,rfl⟩:=h;simp only[Mp,ae,dT] at hn;obtain⟨hn1,hn2⟩:=hn;cases j with
   |zero=>
     simp at hq hf hb;subst hq; subst hf;rw[hb] at hn1;rcases Rk h1 hp with e|e|e
     ·exact .inl e
     ·exact .inr e
     ·subst e; simp[qh] at hn1
   |succ j=>simp at hq hf; exact CD h2 hn2 j q f hq hf hp (by rw[show k+1+j=k+(j+1) by omega]; exact hb)
theorem LX {N:Nat} {ops:Array Oper}:∀{l:List Oper} {qs:List O},tK P N ops l qs=true->l.length=qs.length/\∀ (j:Nat) (o:Oper) (q:O),l[j]?=some o->qs[j]?=some q->QD P N ops o (Uo q)=true
 |[],[],_=>⟨rfl,fun j o q h=>by simp at h⟩
 |[],_::_,h=>by simp[tK] at h
 |_::_,[],h=>by simp[tK] at h
 |o::r,q::s,h=>by
   simp only[tK,ae] at h;obtain⟨hl,hm⟩:=LX h.2;refine⟨by simp[hl],fun j o' q' h1 h2=>?_⟩;cases j with
   |zero=>simp at h1 h2; subst h1; subst h2; exact h.1
   |succ j=>simp at h1 h2; exact hm j o' q' h1 h2
theorem Ad {un:List (Nat × Nat)} {j:Nat} {ys:List Nat} {q:O}:∀{k:Nat} {l:List O},xc un j ys q k l=true->∀(i:Nat) (x:O),l[i]?=some x->LV un (k+i) j x ys q=true
 |k,[],_,i,x,h=>by simp at h
 |k,z::r,hc,i,x,h=>by
   simp only[xc,ae] at hc;cases i with
   |zero=>simp at h; subst h; exact hc.1
   |succ i=>simp at h; have:=Ad hc.2 i x h; rwa [show k+1+i=k+(i+1) by omega] at this
theorem BX {un:List (Nat × Nat)} {ops:Array Oper}:∀{ys:List Oper} {qs seen:List O} {EX:List (List Nat)},pZ un EX seen ys qs=true->afP ops EX->EX.length=seen.length->(∀j,ys[j]?=ops[seen.length+j]?)->∀(j:Nat) (y:Oper) (q:O),ys[j]?=some y->qs[j]?=some q ->
  (∀e∈y.after,Region.binds .any e=true->e.on<seen.length+j)/\∀ (i:Nat) (x:O),(seen++qs)[i]?=some x->i<seen.length+j->Anc ops i (seen.length+j)\/((lg i i un=false/\lg (seen.length+j) (seen.length+j) un=false)/\jZ x q=true/\((still x.kd=true/\still q.kd=true)\/lg i (seen.length+j) un=true))
 |[],_,_,_,_,_,_,_,j,y,q,h,_=>by simp at h
 |_::_,[],_,_,_,_,_,_,j,y,q,_,h=>by simp at h
 |z::r,p::s,seen,EX,hc,hanc,Q4,hys,j,y,q,h1,h2=>by
   simp only[pZ,ae] at hc;obtain⟨⟨⟨_,c1⟩,c2⟩,c3⟩:=hc;have hz:ops[seen.length]?=some z:=by simpa using (hys 0).symm
   cases j with
   |zero=>
     simp at h1 h2;subst h1; subst h2;refine⟨fun e he hb=>?_,fun i x hx hi=>?_⟩
     ·have:=List.all_eq_true.1 c1 e.on (CO.2 ⟨e,he,hb,rfl⟩);simpa using this
     ·rw[aq (by omega)] at hx;have:=Ad c2 i x hx;simp only[LV,fX,dT,ae,bJ] at this;rcases this with h|h
      ·exact .inl (UL hanc hz i (mem_iff.1 h))
      ·right;exact h
   |succ j=>
     simp at h1 h2
     have amM:afP ops (EX++[Mo EX z]):=by
      intro k l hl i hi;by_cases hk:k<EX.length
      ·rw[aq hk] at hl; exact hanc k l hl i hi
      ·have hk2:=ak hl;simp at hk2;have hke:k=EX.length:=by omega
       subst hke;simp at hl;subst hl;rw[Q4];exact UL hanc hz i hi
     obtain⟨k1,k2⟩:=BX c3 amM (by simp[Q4]) (fun m=>by have:=hys (m+1); simp at this ⊢; rw[this]; congr 1; omega) j y q h1 h2;simp only[bK,cc,eH] at k1 k2;refine⟨fun e he hb=>by have:=k1 e he hb; omega,fun i x hx hi=>?_⟩;have:=k2 i x (by simpa using hx) (by omega)
     rwa [show seen.length+(0+1)+j=seen.length+(j+1) by omega] at this
theorem yg {un:List (Nat × Nat)}:∀{ys:List Oper} {qs seen:List O} {EX:List (List Nat)},pZ un EX seen ys qs=true->ys.length=qs.length->∀q∈qs,BT q.kd=true
 |[],[],_,_,_,_,q,hq=>by simp at hq
 |[],_::_,_,_,_,hl,_,_=>by simp at hl
 |_::_,[],_,_,_,hl,_,_=>by simp at hl
 |z::r,p::s,seen,EX,hc,hl,q,hq=>by
   simp only[pZ,ae] at hc;rcases aG.1 hq with e|e
   ·subst e; exact hc.1.1.1
   ·exact yg hc.2 (by simpa using hl) q e
theorem HE {os:List O} {rW:List Fq}:∀{un:List (Nat × Nat)},Ec os rW un=true->∀i j,i≠j->lg i j un=true->jq (os.getD i ⟨none,none,.min []⟩) (rW.getD i .all) (os.getD j ⟨none,none,.min []⟩) (rW.getD j .all)=true
 |[],_,i,j,_,h=>by simp[lg] at h
 |p::r,hk,i,j,qd,h=>by
   obtain⟨x,y⟩:=p;simp only[Ec,ae,dT,decide_eq_true_eq] at hk;simp only[lg,dT,ae,decide_eq_true_eq] at h;rcases h with⟨rfl,rfl⟩|h
   ·exact hk.1.resolve_left qd
   ·exact HE hk.2 i j qd h
theorem PU (x y:O) {f g:Fq} (hf:f=.no\/f=.bo []) (hg:g=.no\/g=.bo []):jq x f y g=true:=by
 have d:∀d,C4 d (.bo [])=true:=fun d=>by cases d<;>rfl
 have d':∀d,C4 d .no=true:=fun d=>by cases d<;>rfl
 rcases hf with rfl|rfl<;>rcases hg with rfl|rfl<;>simp[jq,Fq.ok,Ni,d,d']
theorem E0.drew {X:Nat->Prop} {φ:dj} {w:World} {B:Nat->Nat} {base:Nat} {s:St} {a:Act} {N:Nat} (h:E0 X φ w B base s a N):E0 X φ w.drew B base s a N:=by
 obtain⟨N1,Ha,AF,hb⟩:=h.sb;exact⟨⟨N1,Ha,AF.nZ (.drew _ _) (AF.heap.of_same (ψ:=[]) ⟨rfl,rfl,rfl,Nat.le_succ _,aO _,fun g _ h=>⟨rfl,h⟩,.refl _⟩) AF.own (fun _ _=>rfl),hb⟩,h.defers,h.size⟩
theorem afd (dm:fj P c) (hS:afL c call T) (hT:Xr P c T) (hC:UT T):Mv P c call:=by
 intro X φ w B base s s' rW a N id ops os un Q hN hc ho hs hd hr hg hQ;simp only[OS,ae] at hd;obtain⟨hn,hd⟩:=hd;obtain⟨hl,hm⟩:=LX hc;obtain⟨A3,oW⟩:=Sp hS un 0 ops.toList os s s' rW hl (yg ho hl) hs hn;have hlen:=HI 0 ops.toList os (K4 un 0 rW) hl (by rw[HJ]; exact A3);have wW:fg φ w φ w.drew:=.drew _ _;have hord:=BX (ops:=ops) ho (fun j l hl=>by simp at hl) rfl (fun j=>by simp);have ye:E0 X φ w.drew B base s a N:=hr.drew
 refine wp_region_any dm.mixed (aij hT hC (X:=X) (B:=B) (base:=base) hN (sf:=s') ops.size (KS 0 ops.toList os (K4 un 0 rW)) _ a w.drew φ s (by simpa using hlen) (fun i=>?_) (by simp) (fun j o _ hl=>by simp[bh,nD] at hl; split at hl<;>simp at hl) (fun p hp=>?_) ?_ oW ye (hg.nZ wW)
  fun a' w' φ' h k=>hQ a' w' φ' h (wW.trans k))
 ·by_cases hi:i<ops.size
  ·simp only[bh,nD,hi,if_true,dY,true_iff];obtain⟨p,hp⟩:=bq (l:=KS 0 ops.toList os (K4 un 0 rW)) (i:=i) (by rw[hlen]; simpa using hi);exact⟨p,bn hp,by have:=(vO 0 _ _ _ i p hp).1; omega⟩
  ·simp only[bh,nD,hi,if_false,Option.getD_none];refine⟨(fun h=>by cases h),fun⟨p,hp,Ql⟩=>?_⟩;exfalso;obtain⟨j,hj⟩:=bE hp;have h1:=(vO 0 _ _ _ j p hj).1;have h2:=ak hj;rw[hlen] at h2;simp at h2;omega
 ·obtain⟨j,hj⟩:=bE hp;obtain⟨h1,h2,h3,h4⟩:=vO 0 _ _ _ j p hj;have h1':p.1=j:=by omega
  obtain⟨k1,_⟩:=hord j p.2.1 p.2.2.1 h2 h3;refine⟨by rw[h1']; simpa using h2,hm j _ _ h2 h3,fun e he hb=>?_⟩;have:=k1 e he hb;simp at this;omega
 ·rw[List.pairwise_iff_getElem];intro i j hi hj wR;obtain⟨h1,h2,h3,h4⟩:=vO 0 _ _ _ i _ (ai hi);obtain⟨k1,k2,k3,k4⟩:=vO 0 _ _ _ j _ (ai hj);refine⟨by omega,?_⟩;obtain⟨_,amA⟩:=hord j _ _ k2 k3;have:=amA i _ (by simpa using h3) (by simpa using wR);simp only[eH,fX] at this;rcases this with h|h
  ·left; rw[h1,k1]; simpa using h
  ·right;obtain⟨⟨BV,wU⟩,FW,h⟩:=h;refine⟨FW,?_⟩;rw[S6] at h4 k4;simp only[fX,BV,wU,bk,if_false,Option.map_id'] at h4 k4;rcases h with⟨h5,h6⟩|h5
   ·exact PU _ _ (CD hs hn i _ _ h3 h4 h5 (by simpa using BV)) (CD hs hn j _ _ k3 k4 h6 (by simpa using wU))
   ·have:=HE hd i j (by omega) h5;simp only[List.getD_eq_getElem?_getD,h3,k3,h4,k4,dY] at this;exact this
end
end Go.Bm

/- A step up to what can be seen of a state: StepT and SoundT. -/
namespace Go.Bm
open Go.Am
section
variable {P:Program} {c:eI} {call:Nat->List AV->Heap->Option (AV × Heap)}
def dS (s t:St):Prop:=(∀i,get s.env i=get t.env i)/\s.H=t.H
theorem dS.rfl' {s:St}:dS s s:=⟨fun _=>rfl,rfl⟩
theorem dS.symm {s t:St} (h:dS s t):dS t s:=⟨fun i=>(h.1 i).symm,h.2.symm⟩
theorem dS.trans {s t u:St} (h:dS s t) (k:dS t u):dS s u:=⟨fun i=>(h.1 i).trans (k.1 i),h.2.trans k.2⟩
theorem E0.same {X:Nat->Prop} {φ:dj} {w:World} {B:Nat->Nat} {base:Nat} {s t:St} {a:Act} {N:Nat} (h:E0 X φ w B base s a N) (e:dS s t):E0 X φ w B base t a N:=by
 obtain⟨N1,Ha,AF,BV,wU⟩:=h.sb;exact⟨⟨N1,Ha,AF.ext (fun i=>(e.1 i).symm) e.2.symm,BV,by rw[<-e.2]; exact wU⟩,h.defers,h.size⟩
def Di:Fq->Fq->Prop
 |_,.all=>True
 |.wr sl bs,.wr sl' bs'=>(∀i∈sl,i∈sl')/\(match bs,bs' with
   |none,none=>True
   |some l,some l'=>∀b∈l,b∈l'
   |_,_=>False)
 |f,g=>f=g
theorem Di.refl (f:Fq):Di f f:=by
 cases f<;>try exact rfl
 case wr sl bs=>cases bs<;>simp[Di]
 case all=>trivial
def TS (c:eI) (call:Nat->List AV->Heap->Option (AV × Heap)) (s:St) (q:O) (f:Fq) (s':St):Prop:=
 BT q.kd=true/\∃ s0 s1 f0,dS s s0/\uh c call s0 q=some (s1,f0)/\Di f0 f/\dS s1 s'
theorem ajh:afL c call (TS c call):=fun s q f s' hk h=>⟨fun hf=>⟨hk,s,s',f,dS.rfl',h,.refl f,dS.rfl'⟩,⟨hk,s,s',f,dS.rfl',h,by cases f<;>trivial,dS.rfl'⟩⟩
theorem af0 (FT:Pk P c call):Xr P c (TS c call):=by
 intro X φ w B base N ops s s' o a q f hN hc ⟨_,s0,s1,f0,e0,h,_,e1⟩ hr hg K Q hK;have hr0:=hr.same e0
 have ED:cX P o.op (mV q.kd)=true:=by
  have:=hc;simp only[QD,Uo,ae] at this;exact this.2
 exact Ri (fun v s2 f hv=>FT X φ w B base s0 o a q.kd v s2 f ED hv hr0.sb hg) hc hN h hr0 fun a' w' φ' ye k'=>hK a' w' φ' (ye.same e1) k'
theorem abY (dm:fj P c) (FT:Pk P c call) (hC:UT (TS c call)):Mv P c call:=afd dm ajh (af0 FT) hC
end
end Go.Bm
