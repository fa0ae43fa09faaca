/- The machine by value: what a state stands for. -/
import Derived.Test.YtbnheahpdodmjabGreatDoorBmA
/- How a state by value stands for a state of the older machine. -/
set_option linter.unusedSimpArgs false
open Bool renaming and_eq_true → ae, or_eq_false_iff → fi
open List renaming ext_getElem? → dW, getElem?_append_left → aA, getElem?_append_right → aL, getElem?_drop → bk, getElem?_eq_none → dO, getElem?_map → cu, getElem?_of_mem → bG, getElem?_set → aU, getElem?_set_ne → cT, getElem?_take → bT, length_drop → eV, length_map → aX, length_replicate → cY, length_take → bD, map_drop → GO, mem_append → aI, mem_cons → aO, mem_map_of_mem → tI, mem_of_getElem? → bp, mem_of_mem_drop → dv, mem_of_mem_take → du, mem_singleton → cX, replicate → bh
open List.cons renaming injEq → Sr
open Nat renaming add_mul → cO, le_refl → aJ, mul_le_mul_right → bV, zero_add → fT, zero_mul → rJ
open Ne renaming symm → jP
open Option renaming isSome_iff_exists → bf, map_some → cG
open Option.some renaming inj → bj, injEq → af
open Prod.mk renaming injEq → aF
namespace Go.Bm
open Go.Am

structure Names where
 β:Nat->Nat
 ν:Rt->Option Nat

mutual
def cU (N:Names):AV->AV
 |.dX k p off len=>match N.ν p with
   |some n=>.sl k n (off*k) len
   |none=>.dC
 |.fG k p i off=>match N.ν p with
   |some n=>.ptr n (i*k+off)
   |none=>.any
 |.ptr b off=>.ptr (N.β b) off
 |.agg cs=>.agg (mX N cs)
 |.dR cs=>.dR (mX N cs)
 |.func f a b=>.func f (mX N a) (mX N b)
 |.own _ _=>.any
 |.sl k b off len=>.sl k (N.β b) off len
 |.any=>.any|.undef=>.undef|.fY=>.fY|.gh=>.gh|.dC=>.dC
 |.int k n=>.int k n|.bool b=>.bool b|.str s=>.str s
 |.list k xs=>.list k xs|.dG cs=>.dG cs
def mX (N:Names):List AV->List AV
 |[]=>[]
 |x::r=>cU N x::mX N r
end
def sN (N:Names) (p:Rt) (k len:Nat):AV:=
 match N.ν p with
 |some n=>.sl k n 0 len
 |none=>.dC
def jG (N:Names) (p:Rt):AV->AV
 |.own k xs=>sN N p k xs.length
 |v=>cU N v
def WN (N:Names) (f:Nat->Rt):Nat->List AV->List AV
 |_,[]=>[]
 |j,x::r=>jG N (f j) x::WN N f (j+1) r
def lZ (N:Names) (i:Nat):AV->AV
 |.agg cs=>.agg (WN N (.sc i) 0 cs)
 |v=>jG N (.s i) v
def DR (N:Names):Env->Env
 |[]=>[]
 |(i,v)::r=>(i,lZ N i v)::DR N r

def Le (x y:AV):Prop:=∀R φ v,bR R φ y v->bR R φ x v
theorem Le.refl (x:AV):Le x x:=fun _ _ _ h=>h
theorem Le.trans {x y z:AV} (h:Le x y) (k:Le y z):Le x z:=fun R φ v r=>h R φ v (k R φ v r)
theorem Le.any (y:AV):Le .any y:=fun _ _ _ _=>.any _ _
theorem Le.agg {xs ys:List AV} (hl:xs.length=ys.length) (h:∀(i:Nat) (x y:AV),xs[i]?=some x->ys[i]?=some y->Le x y):Le (.agg xs) (.agg ys):=by
 intro R φ v r;cases r with
 |agg _ _ vs Bp h2=>
   refine .agg _ _ _ (hl.trans Bp) fun i c u hc hu=>?_;obtain⟨y,hy⟩:=bt (l:=ys) (i:=i) (by have:=az hc; omega);exact h i c y hc hy _ _ _ (h2 i y u hy hu)
theorem Le.fa (k:Nat):Le (.list k []) .dC:=by
 intro R φ v r;cases r with
 |dC=>exact .lJ _ _

mutual
def cS (o:Rt->Option (Nat × List AV)) (nb:Nat):AV->Prop
 |.dX k p off len=>∃xs,o p=some (k,xs)/\off+len<=xs.length
 |.fG k p i _=>∃xs,o p=some (k,xs)/\i<xs.length
 |.ptr b _=>b<nb
 |.agg cs=>mw o nb cs
 |.dR cs=>mw o nb cs
 |.func f a b=>mw o nb a/\mw o nb b/\(kB f=true->a=[]/\∃ c,b=[.ptr c 0])
 |.sl _ b _ _=>b<nb
 |_=>True
def mw (o:Rt->Option (Nat × List AV)) (nb:Nat):List AV->Prop
 |[]=>True
 |x::r=>cS o nb x/\mw o nb r
end
theorem gO {o:Rt->Option (Nat × List AV)} {nb:Nat}:∀{cs:List AV},mw o nb cs ↔ ∀(i:Nat) (c:AV),cs[i]?=some c->cS o nb c
 |[]=>by simp[mw]
 |x::r=>by
   simp only[mw,gO (cs:=r)];constructor
   ·rintro⟨h1,h2⟩ i c hc;cases i with
    |zero=>simp at hc; exact hc▸h1
    |succ i=>exact h2 i c (by simpa using hc)
   ·intro h;exact⟨h 0 x rfl,fun i c hc=>h (i+1) c (by simpa using hc)⟩

def rF (H:Heap) (o:Option Nat) (k:Nat) (xs:List AV):Prop:=
 match o with
 |none=>xs=[]
 |some n=>∃cs,aH H n=some cs/\xs.length*k<=cs.length/\(∀x∈xs,x.cells.length=k)/\∀ (i:Nat) (c:AV),(aC xs)[i]?=some c->fz c=true/\∃ a,cs[i]?=some a/\a.leaf=true/\Le c a

structure ff (X:Nat->Prop) (φ:dx) (w:World) (N:Names) (s:St) (Ha:Heap) (t:Nat->Value):Prop where
 env:∀i,bR (Rd X φ w) φ (lZ N i (get s.env i)) (t i)
 IL:∀i,cS (aB s) s.H.length (get s.env i)
 heap:cm X φ w Ha
 own:∀p k xs,aB s p=some (k,xs)->rF Ha (N.ν p) k xs
 box:∀b cs,aH s.H b=some cs->∃as,aH Ha (N.β b)=some as/\as.length=cs.length/\∀ (j:Nat) (c:AV),cs[j]?=some c->cS (aB s) s.H.length c/\∃ a,as[j]?=some a/\Le (jG N (.c b j) c) a
 inj:∀p q n,(aB s p).isSome->(aB s q).isSome->N.ν p=some n->N.ν q=some n->p=q
 bx:∀b p,(aH s.H b).isSome->(aB s p).isSome->N.ν p≠some (N.β b)
 bi:∀b c,(aH s.H b).isSome->(aH s.H c).isSome->N.β b=N.β c->b=c

/-! Lists and places -/
theorem oZ (N:Names):∀(cs:List AV) (i:Nat),(mX N cs)[i]?=(cs[i]?).map (cU N)
 |[],i=>by simp[mX]
 |x::r,i=>by cases i<;>simp[mX,oZ N r]
theorem er (N:Names):∀cs:List AV,(mX N cs).length=cs.length
 |[]=>rfl
 |x::r=>by simp[mX,er N r]
theorem gC (N:Names) (f:Nat->Rt):∀(cs:List AV) (j i:Nat),(WN N f j cs)[i]?=(cs[i]?).map (jG N (f (j+i)))
 |[],j,i=>by simp[WN]
 |x::r,j,i=>by
   cases i with
   |zero=>simp[WN]
   |succ i=>simp only[WN,List.getElem?_cons_succ,gC N f r]; rw[show j+1+i=j+(i+1) by omega]
theorem gQ (N:Names) (f:Nat->Rt):∀(cs:List AV) (j:Nat),(WN N f j cs).length=cs.length
 |[],j=>rfl
 |x::r,j=>by simp[WN,gQ N f r]
theorem fc (g:AV->AV):∀(cs:List AV) (i:Nat),(dp g cs)[i]?=(cs[i]?).map (cW g)
 |[],i=>by simp[dp]
 |x::r,i=>by cases i<;>simp[dp,fc g r]
theorem cQ (g:AV->AV):∀cs:List AV,(dp g cs).length=cs.length
 |[]=>rfl
 |x::r=>by simp[dp,cQ g r]
theorem pN (N:Names):∀(e:Env) (i:Nat),get (DR N e) i=lZ N i (get e i)
 |[],i=>rfl
 |(j,u)::r,i=>by
   simp only[DR,Am.get];split
   ·rename_i h; rw[h]
   ·exact pN N r i
theorem dF (g:AV->AV):∀(e:Env) (i:Nat),get (l8 g e) i=cW g (get e i)
 |[],i=>rfl
 |(j,u)::r,i=>by
   simp only[l8,Am.get];split
   ·rfl
   ·exact dF g r i
theorem LM (g:AV->AV):∀(H:Heap) (b:Nat),(gK g H)[b]?=(H[b]?).map (Option.map (dp g))
 |[],b=>by simp[gK]
 |none::r,b=>by cases b<;>simp[gK,LM g r]
 |some cs::r,b=>by cases b<;>simp[gK,LM g r]
theorem fX (g:AV->AV):∀H:Heap,(gK g H).length=H.length
 |[]=>rfl
 |none::r=>by simp[gK,fX g r]
 |some cs::r=>by simp[gK,fX g r]
theorem fR (g:AV->AV) (H:Heap) (b:Nat):aH (gK g H) b=(aH H b).map (dp g):=by
 unfold aH;rw[LM];cases H[b]? with
 |none=>rfl
 |some o=>cases o<;>rfl
theorem blk_iff {H:Heap} {b:Nat} {cs:List AV}:aH H b=some cs ↔ H[b]?=some (some cs):=by
 constructor
 ·exact uM
 ·intro h; unfold aH; rw[h]
theorem dU {H:Heap} {b:Nat} {cs:List AV} (h:aH H b=some cs):b<H.length:=az (uM h)
theorem dH (H:Heap) (b c:Nat) (x:List AV):aH (H.set b (some x)) c=if c=b/\b<H.length then some x else aH H c:=by
 unfold aH;rw[aU];by_cases h:b=c
 ·subst h;by_cases hl:b<H.length
  ·simp[hl]
  ·simp[hl,dO (Nat.le_of_not_lt hl)]
 ·simp[h,jP h]
theorem fQ (H:Heap) (x:List AV) (c:Nat):aH (H++[some x]) c=if c=H.length then some x else aH H c:=by
 unfold aH;by_cases h:c<H.length
 ·rw[aA h,if_neg (by omega)]
 ·rw[aL (by omega)];by_cases h2:c=H.length
  ·subst h2; simp
  ·rw[if_neg h2,dO (l:=H) (by omega),dO (by simp; omega)]

def kA (x:AV):Prop:=∀cs,x≠.agg cs
def NOwn (x:AV):Prop:=∀k xs,x≠.own k xs
def lX (g:AV->AV):Prop:=∀k p o l,(kA (g (.dX k p o l))/\NOwn (g (.dX k p o l)))/\(kA (g (.fG k p o l))/\NOwn (g (.fG k p o l)))
theorem Ag {g:AV->AV} (hg:lX g) (x:AV) (k:Nat) (xs:List AV):cW g x=.own k xs ↔ x=.own k xs:=by
 cases x<;>simp[cW]
 ·exact (hg _ _ _ _).1.2 _ _
 ·exact (hg _ _ _ _).2.2 _ _
theorem Us {g:AV->AV} (hg:lX g) (x:AV) (cs:List AV):cW g x=.agg cs ↔ ∃ds,x=.agg ds/\dp g ds=cs:=by
 cases x<;>simp[cW]
 ·exact (hg _ _ _ _).1.1 _
 ·exact (hg _ _ _ _).2.1 _
theorem oI {g:AV->AV} (hg:lX g) {x:AV} (h:kA x):kA (cW g x):=by
 intro cs e;obtain⟨ds,rfl,_⟩:=(Us hg x cs).1 e;exact h _ rfl
theorem j8 {g:AV->AV} (hg:lX g) (s:St) (p:Rt):at_ (cB g s) p=(at_ s p).map (cW g):=by
 cases p with
 |s i=>simp[at_,cB,dF]
 |sc i j=>
   simp only[at_,cB,dF];generalize get s.env i=x;split
   ·rename_i cs h;obtain⟨ds,rfl,rfl⟩:=(Us hg x cs).1 h;simp[fc]
   ·rename_i h;split
    ·rename_i ds;exact absurd rfl (h (dp g ds))
    ·rfl
 |c b j=>
   simp only[at_,cB,fR];cases aH s.H b with
   |none=>rfl
   |some cs=>simp[fc]
theorem cD {s:St} {p:Rt} {k:Nat} {xs:List AV}:aB s p=some (k,xs) ↔ at_ s p=some (.own k xs):=by
 unfold aB;split
 ·rename_i k' xs' h;rw[h];simp
 ·rename_i h;constructor
  ·intro h'; cases h'
  ·intro h'; exact absurd h' (h k xs)
theorem iX {g:AV->AV} (hg:lX g) (s:St) (p:Rt):aB (cB g s) p=aB s p:=by
 cases h:aB s p with
 |none=>
   cases h2:aB (cB g s) p with
   |none=>rfl
   |some y=>
     obtain⟨k,xs⟩:=y;rw[cD,j8 hg] at h2;cases hx:at_ s p with
     |none=>rw[hx] at h2; cases h2
     |some x=>
       rw[hx] at h2;simp only[cG,af] at h2;rw[Ag hg] at h2;subst h2;rw[cD.2 hx] at h;cases h
 |some y=>
   obtain⟨k,xs⟩:=y;rw[cD] at h ⊢;rw[j8 hg,h];rfl

structure Shape (s s':St):Prop where
 agg:∀i cs,get s.env i=.agg cs->∃ds,get s'.env i=.agg ds/\ds.length=cs.length
 Xx:∀i,kA (get s.env i)->kA (get s'.env i)
 len:s'.H.length=s.H.length
 box:∀b cs,aH s.H b=some cs->∃ds,aH s'.H b=some ds/\ds.length=cs.length
 F6:∀b,aH s.H b=none->aH s'.H b=none
theorem Shape.refl (s:St):Shape s s:=⟨fun _ cs h=>⟨cs,h,rfl⟩,fun _ h=>h,rfl,fun _ cs h=>⟨cs,h,rfl⟩,fun _ h=>h⟩
theorem Shape.trans {s s' s'':St} (h:Shape s s') (k:Shape s' s''):Shape s s'':=
 ⟨fun i cs hc=>let ⟨ds,h1,h2⟩:=h.agg i cs hc; let ⟨es,h3,h4⟩:=k.agg i ds h1; ⟨es,h3,h4.trans h2⟩,fun i hi=>k.Xx i (h.Xx i hi),k.len.trans h.len,
  fun b cs hc=>let ⟨ds,h1,h2⟩:=h.box b cs hc; let ⟨es,h3,h4⟩:=k.box b ds h1; ⟨es,h3,h4.trans h2⟩,fun b hb=>k.F6 b (h.F6 b hb)⟩
theorem Shape.map {g:AV->AV} (hg:lX g) (s:St):Shape s (cB g s) where
 agg i cs h:=⟨dp g cs,by simp[cB,dF,h,cW],cQ g cs⟩
 Xx i h:=by simp only[cB,dF]; exact oI hg h
 len:=fX g s.H
 box b cs h:=⟨dp g cs,by simp[cB,fR,h],cQ g cs⟩
 F6 b h:=by simp[cB,fR,h]
def Lf (s:St) (r:Rt):Prop:=∀i,r=.s i->kA (get s.env i)
def Fits (s:St) (p:Rt) (v:AV):Prop:=kA v/\∃ x,at_ s p=some x/\kA x
theorem Shape.set {s:St} {p:Rt} {v:AV} (h:Fits s p v):Shape s (setAt s p v):=by
 obtain⟨hv,x,hx,hn⟩:=h;cases p with
 |s i=>
   simp only[at_,af] at hx;refine⟨fun j cs hc=>?_,fun j hj=>?_,rfl,fun b cs hc=>⟨cs,hc,rfl⟩,fun b hb=>hb⟩
   ·simp only[setAt,bQ];by_cases xA:j=i
    ·subst xA; rw[hx] at hc; exact absurd hc (hn cs)
    ·rw[if_neg xA]; exact⟨cs,hc,rfl⟩
   ·simp only[setAt,bQ];by_cases xA:j=i
    ·rw[if_pos xA]; exact hv
    ·rw[if_neg xA]; exact hj
 |sc i l=>
   simp only[at_] at hx;cases hg:get s.env i<;>rw[hg] at hx<;>simp at hx
   rename_i ds;have hs:setAt s (.sc i l) v=⟨put s.env i (.agg (ds.set l v)),s.H⟩:=by simp[setAt,hg]
   rw[hs];refine⟨fun j cs hc=>?_,fun j hj=>?_,rfl,fun b cs hc=>⟨cs,hc,rfl⟩,fun b hb=>hb⟩
   ·simp only[bQ];by_cases xA:j=i
    ·subst xA; rw[hg] at hc; cases hc; exact⟨_,if_pos rfl,by simp⟩
    ·rw[if_neg xA]; exact⟨cs,hc,rfl⟩
   ·simp only[bQ];by_cases xA:j=i
    ·subst xA; exact absurd hg (hj ds)
    ·rw[if_neg xA]; exact hj
 |c b l=>
   simp only[at_] at hx;cases hg:aH s.H b<;>rw[hg] at hx<;>simp at hx
   rename_i ds;have hs:setAt s (.c b l) v=⟨s.env,s.H.set b (some (ds.set l v))⟩:=by simp[setAt,hg]
   rw[hs];refine⟨fun j cs hc=>⟨cs,hc,rfl⟩,fun j hj=>hj,by simp,fun d cs hc=>?_,fun d hd=>?_⟩
   ·rw[dH];by_cases hdb:d=b
    ·subst hdb; rw[hg] at hc; cases hc; exact⟨_,if_pos ⟨rfl,dU hg⟩,by simp⟩
    ·rw[if_neg (fun h=>hdb h.1)]; exact⟨cs,hc,rfl⟩
   ·rw[dH];by_cases hdb:d=b
    ·subst hdb; rw[hg] at hd; cases hd
    ·rw[if_neg (fun h=>hdb h.1)]; exact hd
theorem GI {s:St} {p:Rt} {v:AV} (h:Fits s p v) {r:Rt} (hr:Lf s r):at_ (setAt s p v) r=if r=p then some v else at_ s r:=by
 obtain⟨hv,x,hx,hn⟩:=h;cases p with
 |s i=>
   simp only[at_,af] at hx;cases r with
   |s j=>simp only[at_,setAt,bQ]; by_cases xA:j=i<;>simp[xA]
   |sc j l=>
     simp only[at_,setAt,bQ];by_cases xA:j=i
     ·subst xA;simp only[if_true,hx,reduceCtorEq,if_false];cases v<;>first|(exact absurd rfl (hv _))|(cases x<;>first|(exact absurd rfl (hn _))|rfl)
     ·simp[xA]
   |c b l=>simp[at_,setAt]
 |sc i l=>
   simp only[at_] at hx;cases hg:get s.env i<;>rw[hg] at hx<;>simp at hx
   rename_i ds;have hs:setAt s (.sc i l) v=⟨put s.env i (.agg (ds.set l v)),s.H⟩:=by simp[setAt,hg]
   rw[hs];cases r with
   |s j=>
     simp only[at_,bQ,reduceCtorEq,if_false];by_cases xA:j=i
     ·subst xA;exact absurd hg (hr j rfl ds)
     ·simp[xA]
   |sc j m=>
     simp only[at_,bQ];by_cases xA:j=i
     ·subst xA;simp only[if_true,hg,Rt.sc.injEq,true_and];rw[aU];by_cases hlm:l=m
      ·subst hlm;have:=az hx;simp[this]
      ·simp[hlm,jP hlm]
     ·simp[xA]
   |c b m=>simp[at_]
 |c b l=>
   simp only[at_] at hx;cases hg:aH s.H b<;>rw[hg] at hx<;>simp at hx
   rename_i ds;have hs:setAt s (.c b l) v=⟨s.env,s.H.set b (some (ds.set l v))⟩:=by simp[setAt,hg]
   rw[hs];cases r with
   |s j=>simp[at_]
   |sc j m=>simp[at_]
   |c d m=>
     simp only[at_,dH];by_cases hdb:d=b
     ·subst hdb;simp only[dU hg,and_self,if_true,hg,Rt.c.injEq,true_and];rw[aU];by_cases hlm:l=m
      ·subst hlm;have:=az hx;simp[this]
      ·simp[hlm,jP hlm]
     ·simp[hdb]

theorem af0 {N N':Names} {i:Nat} {x y:AV} (h1:∀cs,x=.agg cs->∃ds,y=.agg ds/\ds.length=cs.length/\∀ (j:Nat) (c d:AV),cs[j]?=some c->ds[j]?=some d->Le (jG N' (.sc i j) d) (jG N (.sc i j) c))
  (h2:kA x->kA y/\Le (jG N' (.s i) y) (jG N (.s i) x)):Le (lZ N' i y) (lZ N i x):=by
 by_cases hx:∃cs,x=.agg cs
 ·obtain⟨cs,rfl⟩:=hx;obtain⟨ds,rfl,hl,h⟩:=h1 cs rfl;simp only[lZ];refine Le.agg (by simp[gQ,hl]) fun j u v hu hv=>?_;rw[gC] at hu hv;simp only[fT] at hu hv;cases hd:ds[j]? with
  |none=>rw[hd] at hu; cases hu
  |some d=>
    cases hc:cs[j]? with
    |none=>rw[hc] at hv; cases hv
    |some c=>
      rw[hd] at hu; rw[hc] at hv;simp at hu hv;subst hu hv;exact h j c d hc hd
 ·have hn:kA x:=fun cs e=>hx ⟨cs,e⟩;obtain⟨hy,hle⟩:=h2 hn;have e1:lZ N' i y=jG N' (.s i) y:=by cases y<;>first|rfl|exact absurd rfl (hy _)
  have e2:lZ N i x=jG N (.s i) x:=by cases x<;>first|rfl|exact absurd rfl (hn _)
  rw[e1,e2]; exact hle
theorem M8 {s:St} {i:Nat} {cs:List AV} (h:get s.env i=.agg cs) (j:Nat):at_ s (.sc i j)=cs[j]?:=by simp[at_,h]
theorem AE {s:St} {b:Nat} {cs:List AV} (h:aH s.H b=some cs) (j:Nat):at_ s (.c b j)=cs[j]?:=by simp[at_,h]
theorem Ll {s:St} {p:Rt} (h:(aB s p).isSome):Lf s p:=by
 intro i hi cs hc;subst hi;cases ho:aB s (.s i) with
 |none=>rw[ho] at h; cases h
 |some y=>
   obtain⟨k,xs⟩:=y;rw[cD] at ho;simp[at_,hc] at ho
theorem rF.take {H:Heap} {o:Option Nat} {k m:Nat} {xs:List AV} (h:rF H o k xs):rF H o k (xs.take m):=by
 cases o with
 |none=>simp only[rF] at h ⊢; rw[h]; simp
 |some n=>
   simp only[rF] at h ⊢;obtain⟨cs,h1,h2,h3,h4⟩:=h;refine⟨cs,h1,?_,fun x hx=>h3 x (du hx),fun i c hc=>?_⟩
   ·rw[bD]; exact Nat.le_trans (bV k (Nat.min_le_right _ _)) h2
   ·refine h4 i c ?_
    have:∀(m:Nat) (l:List AV) (i:Nat) (c:AV),(aC (l.take m))[i]?=some c->(aC l)[i]?=some c:=by
     intro m
     induction m with
     |zero=>intro l i c h; simp[aC] at h
     |succ m ih=>
       intro l i c h;cases l with
       |nil=>simpa using h
       |cons y r=>
         simp only[List.take_succ_cons,aC] at h ⊢;rw[List.getElem?_append] at h ⊢;split
         ·rename_i bE; rw[if_pos bE] at h; exact h
         ·rename_i bE; rw[if_neg bE] at h; exact ih _ _ _ h
    exact this m xs i c hc
theorem Ls {o:Rt->Option (Nat × List AV)} {nb:Nat} {s:St} (h:∀r y,Lf s r->at_ s r=some y->cS o nb y) :
  (∀i,cS o nb (get s.env i))/\∀ b cs,aH s.H b=some cs->∀(j:Nat) (c:AV),cs[j]?=some c->cS o nb c:=by
 refine⟨fun i=>?_,fun b cs hb j c hc=>h (.c b j) c (fun i e=>by cases e) (by rw[AE hb]; exact hc)⟩;by_cases hx:∃cs,get s.env i=.agg cs
 ·obtain⟨cs,dQ⟩:=hx;rw[dQ];simp only[cS];exact gO.2 fun j c hc=>h (.sc i j) c (fun i e=>by cases e) (by rw[M8 dQ]; exact hc)
 ·exact h (.s i) _ (fun j e cs hc=>by cases e; exact hx ⟨cs,hc⟩) rfl
theorem ff.EI {X:Nat->Prop} {φ:dx} {w:World} {N:Names} {s:St} {Ha:Heap} {t:Nat->Value} (h:ff X φ w N s Ha t) {r:Rt} {x:AV} (hx:at_ s r=some x):cS (aB s) s.H.length x:=by
 cases r with
 |s i=>simp[at_] at hx; exact hx▸h.IL i
 |sc i j=>
   simp only[at_] at hx;split at hx
   ·rename_i cs dQ;have:=h.IL i;rw[dQ] at this;simp only[cS] at this;exact gO.1 this j x hx
   ·cases hx
 |c b j=>
   simp only[at_] at hx;split at hx
   ·rename_i cs dQ;obtain⟨as,_,_,h3⟩:=h.box b cs dQ;exact (h3 j x hx).1
   ·cases hx
theorem Shape.back {s s':St} (h:Shape s s') {r:Rt} {y:AV} (hl:Lf s' r) (hy:at_ s' r=some y):Lf s r/\∃ x,at_ s r=some x:=by
 cases r with
 |s i=>
   refine⟨fun j e cs hc=>?_,_,rfl⟩;cases e;obtain⟨ds,h1,_⟩:=h.agg i cs hc;exact hl i rfl ds h1
 |sc i j=>
   refine⟨(fun j e=>by cases e),?_⟩;simp only[at_] at hy ⊢;split at hy
   ·rename_i ds qG;by_cases hx:∃cs,get s.env i=.agg cs
    ·obtain⟨cs,dQ⟩:=hx;obtain⟨es,h1,h2⟩:=h.agg i cs dQ;rw[qG] at h1; cases h1;rw[dQ];exact bt (by have:=az hy; omega)
    ·exact absurd qG (h.Xx i (fun cs e=>hx ⟨cs,e⟩) ds)
   ·cases hy
 |c b j=>
   refine⟨(fun j e=>by cases e),?_⟩;simp only[at_] at hy ⊢;split at hy
   ·rename_i ds qG;cases hb:aH s.H b with
    |none=>rw[h.F6 b hb] at qG; cases qG
    |some cs=>
      obtain⟨es,h1,h2⟩:=h.box b cs hb;rw[qG] at h1; cases h1;exact bt (by have:=az hy; omega)
   ·cases hy
theorem ff.change {X:Nat->Prop} {φ:dx} {w:World} {N N':Names} {s s':St} {Ha:Heap} {t:Nat->Value} (h:ff X φ w N s Ha t) (fg:N'.β=N.β) (hs:Shape s s')
  (hp:∀r x y,Lf s r->at_ s r=some x->at_ s' r=some y->cS (aB s') s'.H.length y/\Le (jG N' r y) (jG N r x))
  (src:Rt->Rt) (ho:∀p k xs,aB s' p=some (k,xs)->∃ys,aB s (src p)=some (k,ys)/\N'.ν p=N.ν (src p)/\∃ m,xs=ys.take m)
  (hi:∀p q,(aB s' p).isSome->(aB s' q).isSome->src p=src q->p=q):ff X φ w N' s' Ha t:=by
 have so:∀{p},(aB s' p).isSome->(aB s (src p)).isSome/\N'.ν p=N.ν (src p):=by
  intro p hp;cases e:aB s' p with
  |none=>rw[e] at hp; cases hp
  |some y=>obtain⟨ys,h1,h2,_⟩:=ho p y.1 y.2 e; exact⟨by rw[h1]; rfl,h2⟩
 have sb:∀{b},(aH s'.H b).isSome->(aH s.H b).isSome:=by
  intro b hb;cases e:aH s.H b with
  |none=>rw[hs.F6 b e] at hb; cases hb
  |some _=>rfl
 obtain⟨hk,hkc⟩:=Ls (o:=aB s') (nb:=s'.H.length) (s:=s') fun r y hl hy=>by
  obtain⟨NY,x,hx⟩:=hs.back hl hy;exact (hp r x y NY hx hy).1
 refine⟨fun i=>?_,hk,h.heap,fun p k xs e=>?_,fun b cs' e=>?_,fun p q n h1 h2 e1 e2=>?_,fun b p h1 h2 e=>?_,fun b c h1 h2 e=>?_⟩
 ·refine af0 (fun cs dQ=>?_) (fun hn=>⟨hs.Xx i hn,?_⟩) _ _ _ (h.env i)
  ·obtain⟨ds,h1,h2⟩:=hs.agg i cs dQ;refine⟨ds,h1,h2,fun j c d hc hd=>(hp (.sc i j) c d (fun i e=>by cases e) ?_ ?_).2⟩
   ·rw[M8 dQ]; exact hc
   ·rw[M8 h1]; exact hd
  ·exact (hp (.s i) _ _ (fun j e=>by cases e; exact hn) rfl rfl).2
 ·obtain⟨ys,h1,h2,m,rfl⟩:=ho p k xs e;rw[h2];exact (h.own _ _ _ h1).take
 ·cases hb:aH s.H b with
  |none=>rw[hs.F6 b hb] at e; cases e
  |some cs=>
    obtain⟨ds,h1,h2⟩:=hs.box b cs hb;rw[e] at h1; cases h1;obtain⟨as,g1,g2,g3⟩:=h.box b cs hb;refine⟨as,by rw[fg]; exact g1,by omega,fun j c hc=>⟨hkc b cs' e j c hc,?_⟩⟩;obtain⟨d,hd⟩:=bt (l:=cs) (i:=j) (by have:=az hc; omega);obtain⟨_,a,g4,g5⟩:=g3 j d hd;exact⟨a,g4,(hp (.c b j) d c (fun i e=>by cases e) (by rw[AE hb]; exact hd) (by rw[AE e]; exact hc)).2.trans g5⟩
 ·obtain⟨k1,k2⟩:=so h1;obtain⟨k3,k4⟩:=so h2;exact hi p q h1 h2 (h.inj _ _ n k1 k3 (by rw[<-k2]; exact e1) (by rw[<-k4]; exact e2))
 ·obtain⟨k1,k2⟩:=so h2;rw[k2,fg] at e;exact h.bx b _ (sb h1) k1 e
 ·rw[fg] at e;exact h.bi b c (sb h1) (sb h2) e

mutual
theorem Rx {N N':Names} {o o':Rt->Option (Nat × List AV)} {nb:Nat} {g:AV->AV} (fg:N'.β=N.β) (hg:lX g)
  (hl:∀k p a l,(cS o nb (.dX k p a l)->cS o' nb (g (.dX k p a l))/\Le (cU N' (g (.dX k p a l))) (cU N (.dX k p a l)))/\(cS o nb (.fG k p a l)->cS o' nb (g (.fG k p a l))/\Le (cU N' (g (.fG k p a l))) (cU N (.fG k p a l)))) :
  ∀ x,cS o nb x->cS o' nb (cW g x)/\Le (cU N' (cW g x)) (cU N x)
 |.dX k p a l,h=>by simp only[cW]; exact (hl k p a l).1 h
 |.fG k p a l,h=>by simp only[cW]; exact (hl k p a l).2 h
 |.agg cs,h=>by
   simp only[cS] at h;obtain⟨h1,h2,h3⟩:=Aj fg hg hl cs h;simp only[cW,cS,cU];exact⟨h1,Le.agg h2 h3⟩
 |.dR cs,h=>by
   simp only[cS] at h;obtain⟨h1,h2,h3⟩:=Aj fg hg hl cs h;simp only[cW,cS,cU];refine⟨h1,fun R φ v r=>?_⟩;cases r with
   |dR _ _ vs Bp hh2=>
     refine .dR _ _ _ (h2.trans Bp) fun i c u hc hu=>?_;obtain⟨y,hy⟩:=bt (l:=mX N cs) (i:=i) (by have:=az hc; omega);exact h3 i c y hc hy _ _ _ (hh2 i y u hy hu)
 |.func f a b,h=>by
   simp only[cS] at h;obtain⟨h1,h2,h3⟩:=Aj fg hg hl a h.1;obtain⟨k1,k2,k3⟩:=Aj fg hg hl b h.2.1;simp only[cW,cS,cU];refine⟨⟨h1,k1,fun hy=>by obtain⟨rfl,c,rfl⟩:=h.2.2 hy; exact⟨rfl,c,by simp only[dp,cW]⟩⟩,fun R φ v r=>?_⟩;rcases r.As with⟨hy,va,vb,rfl,Dz,Dy,ha,hb⟩|⟨b0,r0,rfl,ea,eb,rfl,hb0,hr0⟩
   ·refine .func _ _ _ _ _ _ hy (h2.trans Dz) (k2.trans Dy) (fun i c u hc hu=>?_) (fun i c u hc hu=>?_)
    ·obtain⟨y,hy⟩:=bt (l:=mX N a) (i:=i) (by have:=az hc; omega);exact h3 i c y hc hy _ _ _ (ha i y u hy hu)
    ·obtain⟨y,hy⟩:=bt (l:=mX N b) (i:=i) (by have:=az hc; omega);exact k3 i c y hc hy _ _ _ (hb i y u hy hu)
   ·obtain⟨rfl,c,rfl⟩:=h.2.2 rfl;simp only[mX,cU,dp,cW,fg] at eb ⊢;simp only[Sr,AV.ptr.injEq,and_true] at eb;subst eb;exact .Dg _ _ _ hb0 hr0
 |.any,h=>⟨h,Le.refl _⟩
 |.undef,h=>⟨h,Le.refl _⟩
 |.fY,h=>⟨h,Le.refl _⟩
 |.gh,h=>⟨h,Le.refl _⟩
 |.dC,h=>⟨h,Le.refl _⟩
 |.int _ _,h=>⟨h,Le.refl _⟩
 |.bool _,h=>⟨h,Le.refl _⟩
 |.str _,h=>⟨h,Le.refl _⟩
 |.list _ _,h=>⟨h,Le.refl _⟩
 |.dG _,h=>⟨h,Le.refl _⟩
 |.own _ _,h=>⟨h,Le.refl _⟩
 |.sl k b off len,h=>by simp only[cW,cU,fg]; exact⟨h,Le.refl _⟩
 |.ptr b off,h=>by simp only[cW,cU,fg]; exact⟨h,Le.refl _⟩
theorem Aj {N N':Names} {o o':Rt->Option (Nat × List AV)} {nb:Nat} {g:AV->AV} (fg:N'.β=N.β) (hg:lX g)
  (hl:∀k p a l,(cS o nb (.dX k p a l)->cS o' nb (g (.dX k p a l))/\Le (cU N' (g (.dX k p a l))) (cU N (.dX k p a l)))/\(cS o nb (.fG k p a l)->cS o' nb (g (.fG k p a l))/\Le (cU N' (g (.fG k p a l))) (cU N (.fG k p a l)))) :
  ∀ cs,mw o nb cs->mw o' nb (dp g cs)/\(mX N' (dp g cs)).length=(mX N cs).length/\∀ (i:Nat) (x y:AV),(mX N' (dp g cs))[i]?=some x->(mX N cs)[i]?=some y->Le x y
 |[],_=>⟨trivial,rfl,fun i x y h=>by simp[dp,mX] at h⟩
 |c::r,h=>by
   simp only[mw] at h;obtain⟨h1,h2⟩:=Rx fg hg hl c h.1;obtain⟨k1,k2,k3⟩:=Aj fg hg hl r h.2;refine⟨⟨h1,k1⟩,by simp[dp,mX,k2],fun i x y hx hy=>?_⟩;cases i with
   |zero=>simp[dp,mX] at hx hy; subst hx hy; exact h2
   |succ i=>simp[dp,mX] at hx hy; exact k3 i x y hx hy
end
theorem oJ {N N':Names} {o o':Rt->Option (Nat × List AV)} {nb:Nat} {g:AV->AV} (fg:N'.β=N.β) (hg:lX g)
  (hl:∀k p a l,(cS o nb (.dX k p a l)->cS o' nb (g (.dX k p a l))/\Le (cU N' (g (.dX k p a l))) (cU N (.dX k p a l)))/\(cS o nb (.fG k p a l)->cS o' nb (g (.fG k p a l))/\Le (cU N' (g (.fG k p a l))) (cU N (.fG k p a l))))
  {r:Rt} {x:AV} (hr:∀k xs,x=.own k xs->N'.ν r=N.ν r) (hx:cS o nb x):cS o' nb (cW g x)/\Le (jG N' r (cW g x)) (jG N r x):=by
 by_cases ho:∃k xs,x=.own k xs
 ·obtain⟨k,xs,rfl⟩:=ho;simp only[cW,jG,sN,hr k xs rfl];exact⟨trivial,Le.refl _⟩
 ·obtain⟨h1,h2⟩:=Rx fg hg hl x hx;refine⟨h1,?_⟩
  have e1:jG N' r (cW g x)=cU N' (cW g x):=by
   have:∀k xs,cW g x≠.own k xs:=fun k xs e=>ho ⟨k,xs,(Ag hg x k xs).1 e⟩;generalize cW g x=y at this;cases y<;>first|rfl|exact absurd rfl (this _ _)
  have e2:jG N r x=cU N x:=by cases x<;>first|rfl|exact absurd ⟨_,_,rfl⟩ ho
  rw[e1,e2];exact h2
theorem Lf.map {g:AV->AV} (hg:lX g) {s:St} {r:Rt} (h:Lf s r):Lf (cB g s) r:=by
 intro i hi;simp only[cB,dF];exact oI hg (h i hi)
theorem LX (p:Rt):lX (sw p):=by
 intro k q o l;simp only[sw];constructor<;>(split<;>exact⟨(fun cs e=>by cases e),(fun k xs e=>by cases e)⟩)
theorem ams (p q:Rt) (n:Nat):lX (rt p q n):=by
 intro k r o l;simp only[rt];constructor<;>(repeat' split)<;>exact⟨(fun cs e=>by cases e),(fun k xs e=>by cases e)⟩
theorem amu (p:Rt) (k:Nat) (xs:List AV):lX (fb p k xs):=by
 intro k r o l;simp only[fb];constructor<;>(repeat' split)<;>exact⟨(fun cs e=>by cases e),(fun k xs e=>by cases e)⟩
theorem amt (i d:Nat):lX (mvB i d):=by
 intro k r o l;simp only[mvB];exact⟨⟨(fun cs e=>by cases e),(fun k xs e=>by cases e)⟩,⟨(fun cs e=>by cases e),(fun k xs e=>by cases e)⟩⟩
theorem abF (i b off:Nat):lX (jU i b off):=by
 intro k r o l;simp only[jU];exact⟨⟨(fun cs e=>by cases e),(fun k xs e=>by cases e)⟩,⟨(fun cs e=>by cases e),(fun k xs e=>by cases e)⟩⟩
theorem Bh:lX jD:=by
 intro k r o l;cases r<;>exact⟨⟨(fun cs e=>by cases e),(fun k xs e=>by cases e)⟩,⟨(fun cs e=>by cases e),(fun k xs e=>by cases e)⟩⟩
theorem DN {g:AV->AV} (hg:lX g) {s:St} {p:Rt} {v x:AV} (hv:kA v) (hx:at_ s p=some x) (hn:kA x) {r:Rt} (hr:Lf s r) :
  at_ (setAt (cB g s) p v) r=if r=p then some v else (at_ s r).map (cW g):=by
 rw[GI ⟨hv,cW g x,by rw[j8 hg,hx]; rfl,oI hg hn⟩ (hr.map hg),j8 hg]
theorem vB {g:AV->AV} (hg:lX g) {s:St} {p:Rt} {v x:AV} (hv:kA v) (hx:at_ s p=some x) (hn:kA x):Shape s (setAt (cB g s) p v):=
 (Shape.map hg s).trans (Shape.set ⟨hv,cW g x,by rw[j8 hg,hx]; rfl,oI hg hn⟩)
theorem Rc {s s':St} {p q:Rt} (h:at_ s' p=at_ s q):aB s' p=aB s q:=by unfold aB; rw[h]
theorem iW {s s':St} {p:Rt} (h:at_ s' p=at_ s p):aB s' p=aB s p:=by unfold aB; rw[h]
theorem wq {s:St} {q:Rt} (h:¬Lf s q):aB s q=none:=by
 cases e:aB s q with
 |none=>rfl
 |some y=>exact absurd (Ll (by rw[e]; rfl)) h
theorem Shape.nlf {s s':St} (h:Shape s s') {q:Rt} (hq:¬Lf s q):¬Lf s' q:=fun hl=>hq fun i hi cs hc=>by
 obtain⟨ds,h1,_⟩:=h.agg i cs hc;exact hl i hi ds h1
theorem Bd {s s':St} (jI:Shape s s') {f:Rt->Option (Nat × List AV)} (hf:∀q,Lf s q->aB s' q=f q) (hn:∀q,¬Lf s q->f q=none) (q:Rt):aB s' q=f q:=by
 by_cases hq:Lf s q
 ·exact hf q hq
 ·rw[hn q hq,wq (jI.nlf hq)]
theorem ff.drop {X:Nat->Prop} {φ:dx} {w:World} {N:Names} {s:St} {Ha:Heap} {t:Nat->Value} (h:ff X φ w N s Ha t) {p:Rt} {k:Nat} {xs:List AV} (hp:aB s p=some (k,xs)) :
  ff X φ w N (setAt (cB (sw p) s) p .any) Ha t/\(∀q,aB (setAt (cB (sw p) s) p .any) q=if q=p then none else aB s q)/\Shape s (setAt (cB (sw p) s) p .any):=by
 have zf:=cD.1 hp;have hn:kA (.own k xs):=fun cs e=>by cases e
 have hv:kA .any:=fun cs e=>by cases e
 have jI:=vB (LX p) hv zf hn;have key:∀{r},Lf s r->at_ (setAt (cB (sw p) s) p .any) r=if r=p then some .any else (at_ s r).map (cW (sw p)):=fun hr=>DN (LX p) hv zf hn hr
 have own:∀q,aB (setAt (cB (sw p) s) p .any) q=if q=p then none else aB s q:=by
  refine Bd jI (fun q hq=>?_) (fun q hq=>?_)
  ·have e:=key hq;by_cases rn:q=p
   ·subst rn; rw[if_pos rfl] at e ⊢; unfold aB; rw[e]
   ·rw[if_neg rn] at e ⊢;rw[<-iX (LX p) s q];exact iW (by rw[e,j8 (LX p)])
  ·split
   ·rfl
   ·exact wq hq
 refine⟨h.change rfl jI (fun r x y hl hx hy=>?_) id (fun q k' ys e=>?_) (fun q r _ _ e=>e),own,jI⟩
 ·rw[key hl] at hy;by_cases Ir:r=p
  ·rw[if_pos Ir] at hy;cases hy;exact⟨trivial,Le.any _⟩
  ·rw[if_neg Ir,hx] at hy;simp at hy;subst hy;have:=oJ (N:=N) (N':=N) (o:=aB s) (o':=aB (setAt (cB (sw p) s) p .any)) (nb:=s.H.length) rfl (LX p) (fun k q a l=>?_) (r:=r) (x:=x) (fun _ _ _=>rfl) (h.EI hx)
   ·rw[jI.len]; exact this
   ·simp only[sw];refine⟨fun ho=>?_,fun ho=>?_⟩
    ·split
     ·exact⟨trivial,Le.any _⟩
     ·rename_i rn;simp only[cS,own,if_neg rn] at ho ⊢;exact⟨ho,Le.refl _⟩
    ·split
     ·exact⟨trivial,Le.any _⟩
     ·rename_i rn;simp only[cS,own,if_neg rn] at ho ⊢;exact⟨ho,Le.refl _⟩
 ·rw[own] at e;split at e
  ·cases e
  ·exact⟨ys,e,rfl,ys.length,by simp⟩
theorem ff.give {X:Nat->Prop} {φ:dx} {w:World} {N:Names} {s:St} {Ha:Heap} {t:Nat->Value} (h:ff X φ w N s Ha t) {p q:Rt} {k k' len:Nat} {xs:List AV} (hp:aB s p=some (k,xs)) (hq:at_ s q=some (.dX k' p 0 len)) :
  ∃ N',N'.β=N.β/\ff X φ w N' (setAt (setAt (cB (rt p q len) s) p .any) q (.own k (xs.take len))) Ha t/\(∀r,aB (setAt (setAt (cB (rt p q len) s) p .any) q (.own k (xs.take len))) r=if r=q then some (k,xs.take len) else if r=p then none else aB s r) /\
   Shape s (setAt (setAt (cB (rt p q len) s) p .any) q (.own k (xs.take len))):=by
 have dy:=h.EI hq;simp only[cS,hp,af,aF] at dy;obtain⟨_,⟨rfl,rfl⟩,hle⟩:=dy;have zf:=cD.1 hp;have hn:kA (.own k xs):=fun cs e=>by cases e
 have hv:kA .any:=fun cs e=>by cases e
 have rn:q≠p:=by rintro rfl; rw[zf] at hq; cases hq
 have qn:aB s q=none:=by unfold aB; rw[hq]
 have hg:=ams p q len;have key1:∀{r},Lf s r->at_ (setAt (cB (rt p q len) s) p .any) r=if r=p then some .any else (at_ s r).map (cW (rt p q len)):=fun hr=>DN hg hv zf hn hr;have hsh1:Shape s (setAt (cB (rt p q len) s) p .any):=vB hg hv zf hn;have hlq:Lf s q:=fun i hi cs hc=>by subst hi; simp[at_,hc] at hq
 have hx1:at_ (setAt (cB (rt p q len) s) p .any) q=some (cW (rt p q len) (.dX k p 0 len)):=by rw[key1 hlq,if_neg rn,hq]; rfl
 have hn1:kA (cW (rt p q len) (.dX k p 0 len)):=oI hg fun cs e=>by cases e
 have hv1:kA (.own k (xs.take len)):=fun cs e=>by cases e
 have hsh2:Shape s (setAt (setAt (cB (rt p q len) s) p .any) q (.own k (xs.take len))):=hsh1.trans (Shape.set ⟨hv1,_,hx1,hn1⟩);have lf1:∀{r},Lf s r->Lf (setAt (cB (rt p q len) s) p .any) r:=fun hr i hi=>hsh1.Xx i (hr i hi)
 have key:∀{r},Lf s r->at_ (setAt (setAt (cB (rt p q len) s) p .any) q (.own k (xs.take len))) r=if r=q then some (.own k (xs.take len)) else if r=p then some .any else (at_ s r).map (cW (rt p q len)):=by
  intro r hr;rw[GI ⟨hv1,_,hx1,hn1⟩ (lf1 hr),key1 hr]
 have own:∀r,aB (setAt (setAt (cB (rt p q len) s) p .any) q (.own k (xs.take len))) r=if r=q then some (k,xs.take len) else if r=p then none else aB s r:=by
  refine Bd hsh2 (fun r hr=>?_) (fun r hr=>?_)
  ·have e:=key hr;by_cases h1:r=q
   ·rw[if_pos h1] at e ⊢; exact cD.2 e
   ·rw[if_neg h1] at e ⊢;by_cases h2:r=p
    ·rw[if_pos h2] at e ⊢; unfold aB; rw[e]
    ·rw[if_neg h2] at e ⊢;rw[<-iX hg s r];exact iW (by rw[e,j8 hg])
  ·rw[if_neg (by rintro rfl; exact hr hlq)];split
   ·rfl
   ·exact wq hr
 refine⟨⟨N.β,fun r=>if r=q then N.ν p else N.ν r⟩,rfl,h.change rfl hsh2 (fun r x y hl hx hy=>?_) (fun r=>if r=q then p else r) (fun r k' ys e=>?_) (fun r1 r2 e1 e2 e=>?_),own,hsh2⟩
 ·rw[key hl] at hy;by_cases h1:r=q
  ·rw[if_pos h1] at hy;subst h1;rw[hq] at hx;cases hx;cases hy;refine⟨trivial,?_⟩;have hlen:(xs.take len).length=len:=by rw[bD]; omega
   simp only[jG,cU,sN,if_true,hlen,rJ];exact Le.refl _
  ·rw[if_neg h1] at hy;by_cases h2:r=p
   ·rw[if_pos h2] at hy;cases hy;exact⟨trivial,Le.any _⟩
   ·rw[if_neg h2,hx] at hy;simp at hy;subst hy;have:=oJ (N:=N) (N':=⟨N.β,fun r=>if r=q then N.ν p else N.ν r⟩) (o:=aB s) (o':=aB (setAt (setAt (cB (rt p q len) s) p .any) q (.own k (xs.take len)))) (nb:=s.H.length) rfl hg (fun kk r' a l=>?_) (r:=r) (x:=x) (fun _ _ _=>by simp[h1]) (h.EI hx)
    ·rw[hsh2.len]; exact this
    ·simp only[rt];refine⟨fun ho=>?_,fun ho=>?_⟩
     ·split
      ·rename_i Ir;subst Ir;split
       ·rename_i SG;simp only[cS,hp,af,aF] at ho;obtain⟨_,⟨rfl,rfl⟩,_⟩:=ho;refine⟨?_,?_⟩
        ·simp only[cS,own,if_true];exact⟨_,rfl,by rw[bD]; omega⟩
        ·simp only[cU,if_true]; exact Le.refl _
       ·exact⟨trivial,Le.any _⟩
      ·rename_i Ir;simp only[cS] at ho ⊢;obtain⟨zs,hz,hz2⟩:=ho;have hrq:r'≠q:=by rintro rfl; rw[qn] at hz; cases hz
       refine⟨⟨zs,by rw[own,if_neg hrq,if_neg Ir]; exact hz,hz2⟩,?_⟩;simp only[cU,if_neg hrq]; exact Le.refl _
     ·split
      ·rename_i Ir;subst Ir;split
       ·rename_i SG;simp only[cS,hp,af,aF] at ho;obtain⟨_,⟨rfl,rfl⟩,_⟩:=ho;refine⟨?_,?_⟩
        ·simp only[cS,own,if_true];exact⟨_,rfl,by rw[bD]; omega⟩
        ·simp only[cU,if_true]; exact Le.refl _
       ·exact⟨trivial,Le.any _⟩
      ·rename_i Ir;simp only[cS] at ho ⊢;obtain⟨zs,hz,hz2⟩:=ho;have hrq:r'≠q:=by rintro rfl; rw[qn] at hz; cases hz
       refine⟨⟨zs,by rw[own,if_neg hrq,if_neg Ir]; exact hz,hz2⟩,?_⟩;simp only[cU,if_neg hrq]; exact Le.refl _
 ·rw[own] at e;by_cases h1:r=q
  ·rw[if_pos h1] at e;simp only[af,aF] at e;obtain⟨rfl,rfl⟩:=e;exact⟨xs,by simp[h1,hp],by simp[h1,rn.symm],len,rfl⟩
  ·rw[if_neg h1] at e;by_cases h2:r=p
   ·rw[if_pos h2] at e; cases e
   ·rw[if_neg h2] at e;exact⟨ys,by simp[h1,e],by simp[h1],ys.length,by simp⟩
 ·have np:∀r,(aB (setAt (setAt (cB (rt p q len) s) p .any) q (.own k (xs.take len))) r).isSome->r≠p:=by
   intro r hr e;subst e;rw[own,if_neg (jP rn),if_pos rfl] at hr;cases hr
  by_cases h1:r1=q<;>by_cases h2:r2=q
  ·rw[h1,h2]
  ·simp only[h1,h2,if_true,if_false] at e;exact absurd e.symm (np r2 e2)
  ·simp only[h1,h2,if_true,if_false] at e;exact absurd e (np r1 e1)
  ·simpa only[h1,h2,if_false] using e
end Go.Bm

/- What is owned becomes a value by value. -/
namespace Go.Bm
open Go.Am

theorem Fi {k:Nat}:∀{xs:List AV},(∀x∈xs,x.cells.length=k)->∀{i j:Nat} {x c:AV},xs[i]?=some x->x.cells[j]?=some c->(aC xs)[i*k+j]?=some c
 |[],_,i,j,x,c,h,_=>by simp at h
 |y::r,hk,i,j,x,c,h,hc=>by
   have hy:=hk y (by simp);cases i with
   |zero=>
     simp at h; subst h;simp only[aC,rJ,fT];rw[aA (az hc)];exact hc
   |succ i=>
     simp at h;have:=Fi (xs:=r) (fun z hz=>hk z (by simp[hz])) h hc;simp only[aC];rw[aL (by rw[hy,cO]; omega),hy,cO,show i*k+1*k+j-k=i*k+j by omega];exact this
mutual
theorem gb:∀x:AV,pl x=true->x.plain=true
 |.agg cs,h=>by simp only[pl] at h; simp only[AV.plain]; exact wj cs h
 |.dR cs,h=>by simp only[pl] at h; simp only[AV.plain]; exact wj cs h
 |.func _ a b,h=>by simp only[pl,ae] at h; simp only[AV.plain,ae]; exact⟨wj a h.2.1,wj b h.2.2⟩
 |.any,_=>rfl
 |.undef,_=>rfl
 |.fY,_=>rfl
 |.gh,_=>rfl
 |.dC,_=>rfl
 |.int _ _,_=>rfl
 |.bool _,_=>rfl
 |.str _,_=>rfl
 |.list _ _,_=>rfl
 |.dG _,_=>rfl
 |.own _ _,h=>by simp[pl] at h
 |.dX _ _ _ _,h=>by simp[pl] at h
 |.fG _ _ _ _,h=>by simp[pl] at h
 |.ptr _ _,h=>by simp[pl] at h
 |.sl _ _ _ _,h=>by simp[pl] at h
theorem wj:∀cs:List AV,dc cs=true->uf cs=true
 |[],_=>rfl
 |x::r,h=>by simp only[dc,ae] at h; simp only[uf,ae]; exact⟨gb x h.1,wj r h.2⟩
end
theorem my {c:AV} (h:fz c=true):pl c=true/\c.leaf=true:=by
 unfold fz at h;simp only[ae] at h;exact⟨h.2,h.1⟩
section
variable {X:Nat->Prop} {φ:dx} {w:World} {Ha:Heap}
theorem tw (h:cm X φ w Ha) {n k:Nat} {xs:List AV} (ho:rF Ha (some n) k xs) :
  ∃ g sz,φ[n]?=some (some (g,sz))/\¬ X g/\∀ (i j:Nat) (x c:AV),xs[i]?=some x->x.cells[j]?=some c->∃u,w.cell? ⟨g,i*k+j,none⟩=some u/\fz c=true/\bR (Rd X φ w) [] c u:=by
 obtain⟨cs,h1,h2,h3,h4⟩:=ho;obtain⟨g,sz,arr,e,g1,g2,g3,g4,g5,g6⟩:=h.at h1;refine⟨g,sz,g1,g5,fun i j x c hx hc=>?_⟩;obtain⟨f1,a,f2,lf,f3⟩:=h4 _ c (Fi h3 hx hc);obtain⟨u,u1,u2⟩:=g6 _ a f2;obtain⟨te,rfl,_⟩:=g3.leaf u1 u2 lf;exact⟨u,by rw[gE g2]; exact u1,f1,(f3 _ _ _ u2).dL (gb _ (my f1).1) []⟩
theorem aei {n g sz:Nat} (h:cm X φ w Ha) (jV:φ[n]?=some (some (g,sz))) {o:Nat} {u:Value} (hX:¬X g) (hu:w.cell? ⟨g,o,none⟩=some u):Rd X (φ.set n none) w ⟨g,o,none⟩ u:=by
 refine⟨hX,fun⟨b,pX,hb⟩=>?_,hu⟩;rw[aU] at hb;split at hb
 ·split at hb<;>simp at hb
 ·rename_i qF;exact qF (h.inj n b g sz pX jV hb)
theorem aeh (n:Nat):∀a u,Rd X φ w a u->Rd X (φ.set n none) w a u:=fun _ _ ⟨h1,h2,h3⟩=>⟨h1,fun h=>h2 (wk h),h3⟩
theorem M0 (h:cm X φ w Ha) {n k:Nat} {xs:List AV} (ho:rF Ha (some n) k xs) {off len:Nat} (hle:off+len<=xs.length) {v:Value} (r:bR (Rd X φ w) φ (.sl k n (off*k) len) v) (ψ:dx) :
  bR (Rd X (φ.set n none) w) ψ (.list k ((xs.drop off).take len)) v:=by
 cases r with
 |sl _ _ _ _ _ a cap hb iN hh=>
   obtain⟨g,sz,jV,hX,hc⟩:=tw h ho;obtain⟨h1,h2⟩:=hh g sz jV;by_cases h0:len=0
   ·subst h0;simp only[List.take_zero];exact .yG _ _ _ _ _ _ (fun _ _=>undef) rfl iN (fun x hx=>by simp at hx) (fun i j x c hx=>by simp at hx) (fun i j x c hx=>by simp at hx)
   ·have ha:=h1 (by omega);subst ha
    have hx:∀(i:Nat) (x:AV),((xs.drop off).take len)[i]?=some x->xs[off+i]?=some x/\i<len:=by
     intro i x hx;rw[bT] at hx;split at hx
     ·rw[bk] at hx; exact⟨hx,‹_›⟩
     ·cases hx
    obtain⟨cs,q1,q2,hk,q4⟩:=ho;refine .yG _ _ _ _ _ _ (fun i j=>(w.cell? ⟨g,(off+i)*k+j,none⟩).getD undef) (by simp; omega) iN (fun x hm=>?_) (fun i j x c hi hj=>?_) (fun i j x c hi hj=>?_)
    ·exact hk x (dv (du hm))
    ·obtain⟨u,u1,_,_⟩:=hc _ j x c (hx i x hi).1 hj;rw[u1,Addr.jB,show off*k+(i*k+j)=(off+i)*k+j by rw[cO]; omega];exact aei h jV hX u1
    ·obtain⟨u,u1,_,u3⟩:=hc _ j x c (hx i x hi).1 hj;rw[u1];exact u3.mono (aeh n) (.refl _)
theorem adA (h:cm X φ w Ha) {n k:Nat} {xs:List AV} (ho:rF Ha (some n) k xs) {i o:Nat} {x:AV} (hx:xs[i]?=some x) {v:Value} (r:bR (Rd X φ w) φ (.ptr n (i*k+o)) v) (ψ:dx) :
  bR (Rd X (φ.set n none) w) ψ (.dG (x.cells.drop o)) v:=by
 cases r with
 |ptr _ _ _ a hb hh=>
   obtain⟨g,sz,jV,hX,hc⟩:=tw h ho;have ha:=(hh g sz jV).1;subst ha;refine .dG _ _ _ (fun j=>(w.cell? ⟨g,i*k+(o+j),none⟩).getD undef) (fun j c hj=>?_) (fun j c hj=>?_)
   ·rw[bk] at hj;obtain⟨u,u1,_,_⟩:=hc i (o+j) x c hx hj;rw[u1,Addr.jB,show i*k+o+j=i*k+(o+j) by omega];exact aei h jV hX u1
   ·rw[bk] at hj;obtain⟨u,u1,_,u3⟩:=hc i (o+j) x c hx hj;rw[u1];exact u3.mono (aeh n) (.refl _)
end
theorem ahJ {R R':Addr->Value->Prop} {φ φ':dx} {N N':Names} {i:Nat} {x y:AV} (h1:∀cs,x=.agg cs->∃ds,y=.agg ds/\ds.length=cs.length/\∀ (j:Nat) (c d:AV),cs[j]?=some c->ds[j]?=some d->∀u,bR R φ (jG N (.sc i j) c) u->bR R' φ' (jG N' (.sc i j) d) u)
  (h2:kA x->kA y/\∀ v,bR R φ (jG N (.s i) x) v->bR R' φ' (jG N' (.s i) y) v) {v:Value} (hv:bR R φ (lZ N i x) v):bR R' φ' (lZ N' i y) v:=by
 by_cases hx:∃cs,x=.agg cs
 ·obtain⟨cs,rfl⟩:=hx;obtain⟨ds,rfl,hl,h⟩:=h1 cs rfl;simp only[lZ] at hv ⊢;cases hv with
  |agg _ _ vs Bp hh=>
    rw[gQ] at Bp;refine .agg _ _ _ (by rw[gQ]; omega) fun j c u hc hu=>?_;rw[gC] at hc;simp only[fT] at hc;cases hd:ds[j]? with
    |none=>rw[hd] at hc; cases hc
    |some d=>
      rw[hd] at hc;simp at hc;subst hc;obtain⟨c,hc⟩:=bt (l:=cs) (i:=j) (by have:=az hd; omega);exact h j c d hc hd u (hh j _ u (by rw[gC,hc]; simp) hu)
 ·have hn:kA x:=fun cs e=>hx ⟨cs,e⟩;obtain⟨hy,hle⟩:=h2 hn;have e1:lZ N' i y=jG N' (.s i) y:=by cases y<;>first|rfl|exact absurd rfl (hy _)
  have e2:lZ N i x=jG N (.s i) x:=by cases x<;>first|rfl|exact absurd rfl (hn _)
  rw[e2] at hv;rw[e1];exact hle v hv
mutual
theorem Tf {R R':Addr->Value->Prop} {φ φ':dx} {N N':Names} {o o':Rt->Option (Nat × List AV)} {nb:Nat} {g:AV->AV} (hR:∀a u,R a u->R' a u) (jV:AN φ φ') (fg:N'.β=N.β)
  (hl:∀k p a l,(cS o nb (.dX k p a l)->cS o' nb (g (.dX k p a l))/\∀ v,bR R φ (cU N (.dX k p a l)) v->bR R' φ' (cU N' (g (.dX k p a l))) v)/\(cS o nb (.fG k p a l)->cS o' nb (g (.fG k p a l))/\∀ v,bR R φ (cU N (.fG k p a l)) v->bR R' φ' (cU N' (g (.fG k p a l))) v)) :
  ∀ x,cS o nb x->cS o' nb (cW g x)/\∀ v,bR R φ (cU N x) v->bR R' φ' (cU N' (cW g x)) v
 |.dX k p a l,h=>by simp only[cW]; exact (hl k p a l).1 h
 |.fG k p a l,h=>by simp only[cW]; exact (hl k p a l).2 h
 |.agg cs,h=>by
   simp only[cS] at h;obtain⟨h1,h3⟩:=vX hR jV fg hl cs h;simp only[cW,cS,cU];refine⟨h1,fun v r=>?_⟩;cases r with
   |agg _ _ vs Bp hh2=>
     refine .agg _ _ _ (by simp only[er,cQ] at Bp ⊢; exact Bp) fun i c u hc hu=>?_;exact h3 i c u hc (fun y hy=>hh2 i y u hy hu)
 |.dR cs,h=>by
   simp only[cS] at h;obtain⟨h1,h3⟩:=vX hR jV fg hl cs h;simp only[cW,cS,cU];refine⟨h1,fun v r=>?_⟩;cases r with
   |dR _ _ vs Bp hh2=>
     refine .dR _ _ _ (by simp only[er,cQ] at Bp ⊢; exact Bp) fun i c u hc hu=>?_;exact h3 i c u hc (fun y hy=>hh2 i y u hy hu)
 |.func f a b,h=>by
   simp only[cS] at h;obtain⟨h1,h3⟩:=vX hR jV fg hl a h.1;obtain⟨k1,k3⟩:=vX hR jV fg hl b h.2.1;simp only[cW,cS,cU];refine⟨⟨h1,k1,fun hy=>by obtain⟨rfl,c,rfl⟩:=h.2.2 hy; exact⟨rfl,c,by simp only[dp,cW]⟩⟩,fun v r=>?_⟩;rcases r.As with⟨hy,va,vb,rfl,Dz,Dy,ha,hb⟩|⟨b0,r0,rfl,ea,eb,rfl,hb0,hr0⟩
   ·refine .func _ _ _ _ _ _ hy (by simp only[er,cQ] at Dz ⊢; exact Dz) (by simp only[er,cQ] at Dy ⊢; exact Dy) (fun i c u hc hu=>?_) (fun i c u hc hu=>?_)
    ·exact h3 i c u hc (fun y hy=>ha i y u hy hu)
    ·exact k3 i c u hc (fun y hy=>hb i y u hy hu)
   ·obtain⟨rfl,c,rfl⟩:=h.2.2 rfl;simp only[mX,cU,dp,cW,fg] at eb ⊢;simp only[Sr,AV.ptr.injEq,and_true] at eb;subst eb;exact (bR.Dg (R:=R) _ _ _ hb0 hr0).mono hR jV
 |.any,h=>⟨h,fun v r=>r.mono hR jV⟩
 |.undef,h=>⟨h,fun v r=>r.mono hR jV⟩
 |.fY,h=>⟨h,fun v r=>r.mono hR jV⟩
 |.gh,h=>⟨h,fun v r=>r.mono hR jV⟩
 |.dC,h=>⟨h,fun v r=>r.mono hR jV⟩
 |.int _ _,h=>⟨h,fun v r=>r.mono hR jV⟩
 |.bool _,h=>⟨h,fun v r=>r.mono hR jV⟩
 |.str _,h=>⟨h,fun v r=>r.mono hR jV⟩
 |.list _ _,h=>⟨h,fun v r=>r.mono hR jV⟩
 |.dG _,h=>⟨h,fun v r=>r.mono hR jV⟩
 |.own _ _,h=>⟨h,fun v r=>r.mono hR jV⟩
 |.sl _ b _ _,h=>by simp only[cW,cU,fg]; exact⟨h,fun v r=>r.mono hR jV⟩
 |.ptr b off,h=>by simp only[cW,cU,fg]; exact⟨h,fun v r=>r.mono hR jV⟩
theorem vX {R R':Addr->Value->Prop} {φ φ':dx} {N N':Names} {o o':Rt->Option (Nat × List AV)} {nb:Nat} {g:AV->AV} (hR:∀a u,R a u->R' a u) (jV:AN φ φ') (fg:N'.β=N.β)
  (hl:∀k p a l,(cS o nb (.dX k p a l)->cS o' nb (g (.dX k p a l))/\∀ v,bR R φ (cU N (.dX k p a l)) v->bR R' φ' (cU N' (g (.dX k p a l))) v)/\(cS o nb (.fG k p a l)->cS o' nb (g (.fG k p a l))/\∀ v,bR R φ (cU N (.fG k p a l)) v->bR R' φ' (cU N' (g (.fG k p a l))) v)) :
  ∀ cs,mw o nb cs->mw o' nb (dp g cs)/\∀ (i:Nat) (x:AV) (u:Value),(mX N' (dp g cs))[i]?=some x->(∀y,(mX N cs)[i]?=some y->bR R φ y u)->bR R' φ' x u
 |[],_=>⟨trivial,fun i x u h=>by simp[dp,mX] at h⟩
 |c::r,h=>by
   simp only[mw] at h;obtain⟨h1,h2⟩:=Tf hR jV fg hl c h.1;obtain⟨k1,k3⟩:=vX hR jV fg hl r h.2;refine⟨⟨h1,k1⟩,fun i x u hx hy=>?_⟩;cases i with
   |zero=>simp[dp,mX] at hx hy; subst hx; exact h2 u hy
   |succ i=>simp[dp,mX] at hx hy; exact k3 i x u hx hy
end
theorem Ay (L:Nat) (G:Nat->Wy):∃H:Heap,H.length=L/\∀ m,m<L->H[m]?=some (G m):=
 ⟨(List.range L).map G,by simp,fun m hm=>by simp[hm]⟩
theorem QP {N N':Names} {g:AV->AV} (hg:lX g) {r:Rt} {x:AV} (ho:NOwn x):jG N r x=cU N x/\jG N' r (cW g x)=cU N' (cW g x):=by
 constructor
 ·cases x<;>first|rfl|exact absurd rfl (ho _ _)
 ·have:∀k xs,cW g x≠.own k xs:=fun k xs e=>ho k xs ((Ag hg x k xs).1 e);generalize cW g x=y at this;cases y<;>first|rfl|exact absurd rfl (this _ _)
theorem ff.GA {X:Nat->Prop} {φ:dx} {w:World} {N:Names} {s:St} {Ha:Heap} {t:Nat->Value} (h:ff X φ w N s Ha t) (p:Rt) :
  ∃ φ' Ha',ff X φ' w N (My s p) Ha' t/\ft φ w φ' w/\(∀q,aB (My s p) q=if q=p then none else aB s q)/\Shape s (My s p):=by
 unfold My;cases hp:aB s p with
 |none=>
   refine⟨φ,Ha,h,.refl _ _,fun q=>?_,.refl _⟩;by_cases e:q=p
   ·rw[if_pos e,e]; exact hp
   ·rw[if_neg e]
 |some y=>
   obtain⟨k,xs⟩:=y;simp only;have zf:=cD.1 hp;have hn:kA (.own k xs):=fun cs e=>by cases e
   have hv:kA (.list k xs):=fun cs e=>by cases e
   have hg:=amu p k xs;have jI:=vB hg hv zf hn;generalize Vk:setAt (cB (fb p k xs) s) p (.list k xs)=s' at jI ⊢;have key:∀{r},Lf s r->at_ s' r=if r=p then some (.list k xs) else (at_ s r).map (cW (fb p k xs)):=fun hr=>by rw[<-Vk]; exact DN hg hv zf hn hr
   have own:∀q,aB s' q=if q=p then none else aB s q:=by
    refine Bd jI (fun q hq=>?_) (fun q hq=>?_)
    ·have e:=key hq;by_cases rn:q=p
     ·subst rn; rw[if_pos rfl] at e ⊢; unfold aB; rw[e]
     ·rw[if_neg rn] at e ⊢;rw[<-iX hg s q];exact iW (by rw[e,j8 hg])
    ·split
     ·rfl
     ·exact wq hq
   have eZ:=h.own p k xs hp;cases lM:N.ν p with
   |none=>
     rw[lM] at eZ;have eZ:xs=[]:=eZ;subst eZ;refine⟨φ,Ha,h.change rfl jI (fun r x y hl hx hy=>?_) id (fun q k' ys e=>?_) (fun q r _ _ e=>e),.refl _ _,own,jI⟩
     ·rw[key hl] at hy;by_cases Ir:r=p
      ·rw[if_pos Ir] at hy;subst Ir;rw[zf] at hx;cases hx; cases hy;refine⟨trivial,?_⟩;simp only[jG,cU,sN,lM];exact Le.fa k
      ·rw[if_neg Ir,hx] at hy;simp at hy;subst hy;have:=oJ (N:=N) (N':=N) (o:=aB s) (o':=aB s') (nb:=s.H.length) rfl hg (fun k' q a l=>?_) (r:=r) (x:=x) (fun _ _ _=>rfl) (h.EI hx)
       ·rw[jI.len]; exact this
       ·simp only[fb];refine⟨fun ho=>?_,fun ho=>?_⟩
        ·by_cases rn:q=p
         ·rw[if_pos rn];subst rn;simp only[cS,hp,af,aF] at ho;obtain⟨_,⟨rfl,rfl⟩,hle⟩:=ho;rw[if_pos ⟨rfl,hle⟩];refine⟨trivial,?_⟩;simp only[cU,lM,List.drop_nil,List.take_nil];exact Le.fa k
         ·rw[if_neg rn];simp only[cS,own,if_neg rn] at ho ⊢;exact⟨ho,Le.refl _⟩
        ·by_cases rn:q=p
         ·subst rn;simp only[cS,hp,af,aF] at ho;obtain⟨_,⟨rfl,rfl⟩,hle⟩:=ho;simp at hle
         ·rw[if_neg rn];simp only[cS,own,if_neg rn] at ho ⊢;exact⟨ho,Le.refl _⟩
     ·rw[own] at e;split at e
      ·cases e
      ·exact⟨ys,e,rfl,ys.length,by simp⟩
   |some n=>
     rw[lM] at eZ;obtain⟨_,xE⟩:=h.heap.af7 n;have hr2:∀a u,Rd X φ w a u->Rd X (φ.set n none) w a u:=xE.rd
     have conv:∀r x y,Lf s r->at_ s r=some x->at_ s' r=some y->cS (aB s') s'.H.length y/\∀ v,bR (Rd X φ w) φ (jG N r x) v->bR (Rd X (φ.set n none) w) (φ.set n none) (jG N r y) v:=by
      intro r x y hl hx hy;rw[key hl] at hy;by_cases Ir:r=p
      ·rw[if_pos Ir] at hy;subst Ir;rw[zf] at hx;cases hx; cases hy;refine⟨trivial,fun v hv=>?_⟩;simp only[jG,cU,sN,lM] at hv ⊢;have:=M0 h.heap eZ (off:=0) (len:=xs.length) (by omega) (by simpa using hv) (φ.set n none);simpa using this
      ·rw[if_neg Ir,hx] at hy;simp at hy;subst hy
       have QB:=Tf (R:=Rd X φ w) (R':=Rd X (φ.set n none) w) (φ:=φ) (φ':=φ.set n none) (N:=N) (N':=N) (o:=aB s) (o':=aB s') (nb:=s.H.length) (g:=fb p k xs) hr2 xE.cL rfl (fun k' q a l=>by
        simp only[fb];refine⟨fun ho=>?_,fun ho=>?_⟩
        ·by_cases rn:q=p
         ·rw[if_pos rn];subst rn;simp only[cS,hp,af,aF] at ho;obtain⟨_,⟨rfl,rfl⟩,hle⟩:=ho;rw[if_pos ⟨rfl,hle⟩];refine⟨trivial,fun v hv=>?_⟩;simp only[cU,lM] at hv ⊢;exact M0 h.heap eZ hle hv _
         ·rw[if_neg rn];simp only[cS,own,if_neg rn] at ho ⊢;exact⟨ho,fun v hv=>hv.mono hr2 xE.cL⟩
        ·by_cases rn:q=p
         ·rw[if_pos rn];subst rn;simp only[cS,hp,af,aF] at ho;obtain⟨_,⟨rfl,rfl⟩,hle⟩:=ho;rw[if_pos rfl];obtain⟨x,hx⟩:=bt hle;rw[hx];refine⟨trivial,fun v hv=>?_⟩;simp only[cU,lM] at hv ⊢;exact adA h.heap eZ hx hv _
         ·rw[if_neg rn];simp only[cS,own,if_neg rn] at ho ⊢;exact⟨ho,fun v hv=>hv.mono hr2 xE.cL⟩) x (h.EI hx)
       refine⟨by rw[jI.len]; exact QB.1,fun v hv=>?_⟩;by_cases hxo:∃k' ys,x=.own k' ys
       ·obtain⟨k',ys,rfl⟩:=hxo;simp only[cW,jG,sN] at hv ⊢;exact hv.mono hr2 xE.cL
       ·obtain⟨e1,e2⟩:=QP (N:=N) (N':=N) hg (r:=r) (x:=x) (fun k ys e=>hxo ⟨k,ys,e⟩);rw[e1] at hv;rw[e2];exact QB.2 v hv
     obtain⟨hk,hkc⟩:=Ls (o:=aB s') (nb:=s'.H.length) (s:=s') fun r y hl hy=>by
      obtain⟨NY,x,hx⟩:=jI.back hl hy;exact (conv r x y NY hx hy).1
     have sb:∀{b},(aH s'.H b).isSome->(aH s.H b).isSome:=by
      intro b hb;cases e:aH s.H b with
      |none=>rw[jI.F6 b e] at hb; cases hb
      |some _=>rfl
     have so:∀{q},(aB s' q).isSome->(aB s q).isSome/\q≠p:=by
      intro q hq;rw[own] at hq;by_cases e:q=p
      ·rw[if_pos e] at hq; cases hq
      ·rw[if_neg e] at hq; exact⟨hq,e⟩
     classical
     obtain⟨Ha',hL,hG⟩:=Ay Ha.length (fun m=>if m=n then none else if hb:∃z:Nat × List AV,aH s'.H z.1=some z.2/\N.β z.1=m then some (WN N (.c hb.choose.1) 0 hb.choose.2) else (Ha[m]?).getD none)
     have hbox:∀b cs,aH s'.H b=some cs->aH Ha' (N.β b)=some (WN N (.c b) 0 cs):=by
      intro b cs hb;obtain⟨cs0,Iu⟩:=bf.1 (sb (by rw[hb]; rfl:(aH s'.H b).isSome));obtain⟨as,g1,_⟩:=h.box b cs0 Iu;rw[blk_iff,hG _ (dU g1)];have qF:N.β b≠n:=fun e=>h.bx b p (by rw[Iu]; rfl) (by rw[hp]; rfl) (by rw[lM,e]);have hex:∃z:Nat × List AV,aH s'.H z.1=some z.2/\N.β z.1=N.β b:=⟨(b,cs),hb,rfl⟩;rw[if_neg qF,dif_pos hex];have e1:hex.choose.1=b:=h.bi _ _ (sb (by rw[hex.choose_spec.1]; rfl)) (by rw[Iu]; rfl) hex.choose_spec.2
      have e2:hex.choose.2=cs:=by
       have:=hex.choose_spec.1;rw[e1,hb] at this;exact (bj this).symm
      rw[e2,e1]
     have Gs:∀m,m≠n->(¬∃z:Nat × List AV,aH s'.H z.1=some z.2/\N.β z.1=m)->Ha'[m]?=Ha[m]?:=by
      intro m hm Vn;by_cases bE:m<Ha.length
      ·rw[hG m bE,if_neg hm,dif_neg Vn];obtain⟨x,hx⟩:=bt bE;rw[hx]; rfl
      ·rw[dO (by omega),dO (by omega)]
     refine⟨φ.set n none,Ha',⟨fun i=>?_,hk,⟨?_,h.heap.GR,fun m cs hm=>?_,fun m hm=>?_,fun m m' g sz pX e1 e2=>?_⟩,fun q k' ys e=>?_,fun b cs e=>?_,fun q r m e1 e2 e3 e4=>?_,fun b q e1 e2 e3=>?_,fun b c e1 e2 e3=>?_⟩,xE,own,jI⟩
     ·refine ahJ (fun cs dQ=>?_) (fun hnn=>⟨jI.Xx i hnn,?_⟩) (h.env i)
      ·obtain⟨ds,h1,h2⟩:=jI.agg i cs dQ;refine⟨ds,h1,h2,fun j c d hc hd=>(conv (.sc i j) c d (fun i e=>by cases e) ?_ ?_).2⟩
       ·rw[M8 dQ]; exact hc
       ·rw[M8 h1]; exact hd
      ·exact (conv (.s i) _ _ (fun j e=>by cases e; exact hnn) rfl rfl).2
     ·rw[List.length_set,h.heap.len,hL]
     ·have bE:=az hm;rw[hL] at bE;by_cases FF:m=n
      ·rw[hG m bE,if_pos FF] at hm; cases hm
      ·by_cases Vn:∃z:Nat × List AV,aH s'.H z.1=some z.2/\N.β z.1=m
       ·obtain⟨⟨b,ds⟩,hb,rfl⟩:=Vn;simp only at hb hm FF;have:=hbox b ds hb;rw[blk_iff,hm] at this;cases this;obtain⟨cs0,Iu⟩:=bf.1 (sb (by rw[hb]; rfl:(aH s'.H b).isSome));obtain⟨as,g1,g2,g3⟩:=h.box b cs0 Iu;obtain⟨g,sz,arr,e,f1,f2,f3,f4,f5,f6⟩:=h.heap.at g1;obtain⟨ds',q1,q2⟩:=jI.box b cs0 Iu;rw[hb] at q1; cases q1;refine⟨g,sz,arr,e,?_,f2,f3,by rw[gQ]; omega,f5,fun i c hc=>?_⟩
        ·rw[cT (jP FF)]; exact f1
        ·rw[gC] at hc;simp only[fT] at hc;cases hd:ds[i]? with
         |none=>rw[hd] at hc; cases hc
         |some d=>
           rw[hd] at hc;simp at hc;subst hc;obtain⟨c0,Mn⟩:=bt (l:=cs0) (i:=i) (by have:=az hd; omega);obtain⟨_,a,a1,a2⟩:=g3 i c0 Mn;obtain⟨u,u1,u2⟩:=f6 i a a1;exact⟨u,u1,(conv (.c b i) c0 d (fun i e=>by cases e) (by rw[AE Iu]; exact Mn) (by rw[AE hb]; exact hd)).2 u (a2 _ _ _ u2)⟩
       ·rw[Gs m FF Vn] at hm;obtain⟨g,sz,arr,e,f1,f2,f3,f4,f5,f6⟩:=h.heap.live m cs hm;refine⟨g,sz,arr,e,?_,f2,f3,f4,f5,fun i c hc=>?_⟩
        ·rw[cT (jP FF)]; exact f1
        ·obtain⟨u,u1,u2⟩:=f6 i c hc;exact⟨u,u1,u2.mono hr2 xE.cL⟩
     ·by_cases FF:m=n
      ·subst FF;have bE:=az hm;rw[List.getElem?_set_self (by rw[h.heap.len]; omega)]
      ·rw[cT (jP FF)];by_cases Vn:∃z:Nat × List AV,aH s'.H z.1=some z.2/\N.β z.1=m
       ·obtain⟨⟨b,ds⟩,hb,rfl⟩:=Vn;simp only at hb hm FF;have:=hbox b ds hb;rw[blk_iff,hm] at this;cases this
       ·rw[Gs m FF Vn] at hm;exact h.heap.dead m hm
     ·have sub:∀m g sz:Nat,(φ.set n none)[m]?=some (some (g,sz))->φ[m]?=some (some (g,sz)):=by
       intro m g sz e;rw[aU] at e;split at e
       ·split at e<;>simp at e
       ·exact e
      exact h.heap.inj m m' g sz pX (sub _ _ _ e1) (sub _ _ _ e2)
     ·have hq:=own q;rw[e] at hq;by_cases rn:q=p
      ·rw[if_pos rn] at hq; cases hq
      ·rw[if_neg rn] at hq;have ho:=h.own q k' ys hq.symm;cases hνq:N.ν q with
       |none=>rw[hνq] at ho; exact ho
       |some m=>
         rw[hνq] at ho;obtain⟨cs,c1,c2⟩:=ho
         have FF:m≠n:=by
          intro e; subst e;exact rn (h.inj q p m (by rw[<-hq]; rfl) (by rw[hp]; rfl) hνq lM)
         refine⟨cs,?_,c2⟩;rw[blk_iff,Gs m FF ?_]
         ·exact uM c1
         ·rintro⟨⟨b,ds⟩,hb,rfl⟩;exact h.bx b q (sb (by rw[hb]; rfl)) (by rw[<-hq]; rfl) hνq
     ·refine⟨_,hbox b cs e,gQ _ _ _ _,fun j c hc=>⟨hkc b cs e j c hc,_,by rw[gC,hc]; simp,Le.refl _⟩⟩
     ·exact h.inj q r m (so e1).1 (so e2).1 e3 e4
     ·exact h.bx b q (sb e1) (so e2).1 e3
     ·exact h.bi b c (sb e1) (sb e2) e3
end Go.Bm

/- Owners that go, values that go to their slots, the end of a region. -/
namespace Go.Bm
open Go.Am

def SB (X:Nat->Prop) (φ:dx) (w:World) (B:Nat->Nat) (base:Nat) (s:St) (t:Nat->Value):Prop:=∃N Ha,ff X φ w N s Ha t/\(∀b,b<base->N.β b=B b)/\base<=s.H.length
section
variable {X:Nat->Prop} {φ:dx} {w:World} {N:Names} {s s':St} {Ha:Heap} {t:Nat->Value} {B:Nat->Nat} {base:Nat}

theorem SB.GA (h:SB X φ w B base s t) (p:Rt):∃φ',SB X φ' w B base (My s p) t/\ft φ w φ' w:=by
 obtain⟨N,Ha,h,hb,hl⟩:=h;obtain⟨φ',Ha',h1,h2,_,h3⟩:=h.GA p;exact⟨φ',⟨N,Ha',h1,hb,by rw[h3.len]; exact hl⟩,h2⟩
theorem SB.eO:∀(ps:List Rt) {φ:dx} {s:St},SB X φ w B base s t->∃φ',SB X φ' w B base (eO ps s) t/\ft φ w φ' w
 |[],φ,s,h=>⟨φ,h,.refl _ _⟩
 |p::r,φ,s,h=>by
   obtain⟨l5,h1,a1⟩:=h.GA p;obtain⟨nN,h2,a2⟩:=SB.eO r h1;exact⟨nN,h2,a1.trans a2⟩
theorem SB.rel (h:SB X φ w B base s t) (p:Rt):∃φ',SB X φ' w B base (rel s p) t/\ft φ w φ' w:=by
 unfold Go.Bm.rel;split
 ·exact⟨φ,h,.refl _ _⟩
 ·rename_i k xs hp;split
  ·obtain⟨N,Ha,h,hb,hl⟩:=h;exact⟨φ,⟨N,Ha,(h.drop hp).1,hb,by rw[(h.drop hp).2.2.len]; exact hl⟩,.refl _ _⟩
  ·rename_i q hq;split
   ·rename_i k' r len zf;split
    ·rename_i hr;subst hr;obtain⟨N,Ha,h,hb,hl⟩:=h;obtain⟨N',e,h',_,h3⟩:=h.give hp zf;exact⟨φ,⟨N',Ha,h',fun b bE=>by rw[e]; exact hb b bE,by rw[h3.len]; exact hl⟩,.refl _ _⟩
    ·exact h.GA p
   ·exact h.GA p
theorem SB.NL (i:Nat):∀(cs:List AV) (j:Nat) {φ:dx} {s:St},SB X φ w B base s t->∃φ',SB X φ' w B base (NL i j cs s) t/\ft φ w φ' w
 |[],j,φ,s,h=>⟨φ,h,.refl _ _⟩
 |x::r,j,φ,s,h=>by
   have skip:∃φ',SB X φ' w B base (Go.Bm.NL i (j+1) r s) t/\ft φ w φ' w:=SB.NL i r (j+1) h
   cases x<;>first
    |exact skip
    | (obtain ⟨l5, h1, a1⟩ := h.rel (.sc i j)
       obtain⟨nN,h2,a2⟩:=SB.NL i r (j+1) h1;exact⟨nN,h2,a1.trans a2⟩)
theorem SB.Fo (h:SB X φ w B base s t) (i:Nat):∃φ',SB X φ' w B base (Fo s i) t/\ft φ w φ' w:=by
 unfold Go.Bm.Fo;split
 ·exact h.rel _
 ·exact SB.NL i _ 0 h
 ·exact⟨φ,h,.refl _ _⟩
theorem SB.qI (keep:List Nat):∀(e:Env) {φ:dx} {s:St},SB X φ w B base s t->∃φ',SB X φ' w B base (qI keep e s) t/\ft φ w φ' w
 |[],φ,s,h=>⟨φ,h,.refl _ _⟩
 |(i,v)::r,φ,s,h=>by
   simp only[Go.Bm.qI];split
   ·exact SB.qI keep r h
   ·obtain⟨l5,h1,a1⟩:=h.Fo i;obtain⟨nN,h2,a2⟩:=SB.qI keep r h1;exact⟨nN,h2,a1.trans a2⟩
theorem SB.D8 (b:Nat):∀(n j:Nat) {φ:dx} {s:St},SB X φ w B base s t->∃φ',SB X φ' w B base (D8 b j n s) t/\ft φ w φ' w
 |0,j,φ,s,h=>⟨φ,h,.refl _ _⟩
 |n+1,j,φ,s,h=>by
   simp only[Go.Bm.D8];split
   ·obtain⟨l5,h1,a1⟩:=h.rel (.c b j);obtain⟨nN,h2,a2⟩:=SB.D8 b n (j+1) h1;exact⟨nN,h2,a1.trans a2⟩
   ·exact SB.D8 b n (j+1) h

theorem am9 (he:∀i,get s'.env i=get s.env i) (hH:s'.H=s.H):at_ s'=at_ s:=by
 funext p;cases p<;>simp only[at_,he,hH]
theorem Po (he:∀i,get s'.env i=get s.env i) (hH:s'.H=s.H):aB s'=aB s:=by
 funext p;unfold aB;rw[am9 he hH]
theorem ff.ext (h:ff X φ w N s Ha t) (he:∀i,get s'.env i=get s.env i) (hH:s'.H=s.H):ff X φ w N s' Ha t:=by
 have ho:=Po he hH;exact⟨fun i=>by rw[he]; exact h.env i,fun i=>by rw[he,ho,hH]; exact h.IL i,h.heap,by rw[ho]; exact h.own,by rw[ho,hH]; exact h.box,by rw[ho]; exact h.inj,by rw[ho,hH]; exact h.bx,by rw[hH]; exact h.bi⟩
theorem eB {i:Nat} (h:bY (get s.env i)=false):aB s (.s i)=none/\∀ j,aB s (.sc i j)=none:=by
 have hl:∀(cs:List AV),bS cs=false->∀(j:Nat) (k:Nat) (xs:List AV),cs[j]?≠some (.own k xs):=by
  intro cs
  induction cs with
  |nil=>intro _ j k xs e; simp at e
  |cons x r ih=>
    intro h j k xs e;cases j with
    |zero=>simp at e; subst e; simp[bS] at h
    |succ j=>
      simp at e;refine ih ?_ j k xs e;cases x<;>simp[bS] at h<;>exact h
 refine⟨?_,fun j=>?_⟩
 ·cases e:aB s (.s i) with
  |none=>rfl
  |some y=>
    have e':=cD.1 (show aB s (.s i)=some (y.1,y.2) from e);simp only[at_,af] at e';rw[e'] at h;simp[bY] at h
 ·cases e:aB s (.sc i j) with
  |none=>rfl
  |some y=>
    have e':=cD.1 (show aB s (.sc i j)=some (y.1,y.2) from e);simp only[at_] at e';split at e'
    ·rename_i cs dQ;rw[dQ] at h;simp only[bY] at h;exact absurd e' (hl cs h j _ _)
    ·cases e'
theorem ff.keep (h:ff X φ w N s Ha t) (he:∀i,get s'.env i=get s.env i\/(get s'.env i=.any/\bY (get s.env i)=false)) (hH:s'.H=s.H):ff X φ w N s' Ha t:=by
 have ho:aB s'=aB s:=by
  funext p;cases p with
  |s i=>
    rcases he i with e|⟨e1,e2⟩
    ·unfold aB; simp only[at_,e]
    ·rw[(eB e2).1]; unfold aB; simp only[at_,e1]
  |sc i j=>
    rcases he i with e|⟨e1,e2⟩
    ·unfold aB; simp only[at_,e]
    ·rw[(eB e2).2 j]; unfold aB; simp only[at_,e1]
  |c b j=>unfold aB; simp only[at_,hH]
 refine⟨fun i=>?_,fun i=>?_,h.heap,by rw[ho]; exact h.own,by rw[ho,hH]; exact h.box,by rw[ho]; exact h.inj,by rw[ho,hH]; exact h.bx,by rw[hH]; exact h.bi⟩
 ·rcases he i with e|⟨e1,e2⟩
  ·rw[e]; exact h.env i
  ·rw[e1]; exact .any _ _
 ·rcases he i with e|⟨e1,e2⟩
  ·rw[e,ho,hH]; exact h.IL i
  ·rw[e1]; trivial
mutual
theorem Rf {o o':Rt->Option (Nat × List AV)} {n:Nat} (ho:∀p,(∀j,p≠.c n j)->o' p=o p):∀x,cS o (n+1) x->vf n x=true->cS o' n x
 |.dX k p off len,h,hp=>by
   simp only[cS] at h ⊢;rw[ho p]
   ·exact h
   ·rintro j rfl; simp[vf] at hp
 |.fG k p i off,h,hp=>by
   simp only[cS] at h ⊢;rw[ho p]
   ·exact h
   ·rintro j rfl; simp[vf] at hp
 |.ptr b off,h,hp=>by simp only[cS] at h ⊢; simp[vf] at hp; omega
 |.agg cs,h,hp=>by simp only[cS,vf] at h hp ⊢; exact Aa ho cs h hp
 |.dR cs,h,hp=>by simp only[cS,vf] at h hp ⊢; exact Aa ho cs h hp
 |.func f a b,h,hp=>by simp only[cS,vf,ae] at h hp ⊢; exact⟨Aa ho a h.1 hp.1,Aa ho b h.2.1 hp.2,h.2.2⟩
 |.any,_,_=>trivial
 |.undef,_,_=>trivial
 |.fY,_,_=>trivial
 |.gh,_,_=>trivial
 |.dC,_,_=>trivial
 |.int _ _,_,_=>trivial
 |.bool _,_,_=>trivial
 |.str _,_,_=>trivial
 |.list _ _,_,_=>trivial
 |.dG _,_,_=>trivial
 |.own _ _,_,_=>trivial
 |.sl _ b _ _,h,hp=>by simp only[cS] at h ⊢; simp[vf] at hp; omega
theorem Aa {o o':Rt->Option (Nat × List AV)} {n:Nat} (ho:∀p,(∀j,p≠.c n j)->o' p=o p):∀cs,mw o (n+1) cs->lH n cs=true->mw o' n cs
 |[],_,_=>trivial
 |x::r,h,hp=>by simp only[mw,lH,ae] at h hp ⊢; exact⟨Rf ho x h.1 hp.1,Aa ho r h.2 hp.2⟩
end
theorem LF {n:Nat}:∀{e:Env},F4 n e=true->∀i,vf n (get e i)=true
 |[],_,i=>rfl
 |(j,v)::r,h,i=>by
   simp only[F4,ae] at h;simp only[Am.get];split
   ·exact h.1
   ·exact LF h.2 i
theorem De {n:Nat}:∀{H:Heap},Ac n H=true->∀b cs,aH H b=some cs->lH n cs=true
 |[],_,b,cs,hb=>by simp[aH] at hb
 |none::r,h,b,cs,hb=>by
   simp only[Ac] at h;cases b with
   |zero=>simp[aH] at hb
   |succ b=>exact De h b cs (by simpa[aH] using hb)
 |some ds::r,h,b,cs,hb=>by
   simp only[Ac,ae] at h;cases b with
   |zero=>simp[aH] at hb; subst hb; exact h.1
   |succ b=>exact De h.2 b cs (by simpa[aH] using hb)
theorem LD {n:Nat}:∀{cs:List AV},lH n cs=true->∀(j:Nat) (c:AV),cs[j]?=some c->vf n c=true
 |[],_,j,c,h=>by simp at h
 |x::r,hp,j,c,h=>by
   simp only[lH,ae] at hp;cases j with
   |zero=>simp at h; subst h; exact hp.1
   |succ j=>exact LD hp.2 j c (by simpa using h)
theorem uL {H:Heap} {n b:Nat}:aH (H.take n) b=if b<n then aH H b else none:=by
 unfold aH;rw[bT];by_cases h:b<n<;>simp[h]
theorem ff.anl {env:Env} {H:Heap} {n:Nat} (h:ff X φ w N ⟨env,H⟩ Ha t) (hl:H.length=n+1) (he:F4 n env=true) (hH:Ac n (H.take n)=true):ff X φ w N ⟨env,H.take n⟩ Ha t:=by
 have ho:∀p,(∀j,p≠.c n j)->aB ⟨env,H.take n⟩ p=aB ⟨env,H⟩ p:=by
  intro p hp;cases p with
  |s i=>rfl
  |sc i j=>rfl
  |c b j=>
    unfold aB;simp only[at_,uL];by_cases hb:b<n
    ·rw[if_pos hb]
    ·rw[if_neg hb]
     have:aH H b=none:=by
      cases e:aH H b with
      |none=>rfl
      |some cs=>
        have:=dU e;simp only[hl] at this;exact absurd (by rw[show b=n by omega]) (hp j)
     rw[this]
 have hs:∀{p},(aB ⟨env,H.take n⟩ p).isSome->(aB ⟨env,H⟩ p).isSome:=by
  intro p hp;by_cases hc:∀j,p≠.c n j
  ·rwa [ho p hc] at hp
  ·exfalso;apply hc;rintro j rfl;unfold aB at hp;simp[at_,uL] at hp
 have hlen:(H.take n).length=n:=by simp; omega
 have B9:∀{b},(aH (H.take n) b).isSome->(aH H b).isSome:=by
  intro b hb;rw[uL] at hb;split at hb
  ·exact hb
  ·cases hb
 refine⟨h.env,fun i=>?_,h.heap,fun p k xs e=>?_,fun b cs e=>?_,fun p q m e1 e2=>h.inj p q m (hs e1) (hs e2),fun b p e1 e2=>h.bx b p (B9 e1) (hs e2),fun b c e1 e2=>h.bi b c (B9 e1) (B9 e2)⟩
 ·have:=h.IL i;simp only[hl] at this;simp only[hlen];exact Rf ho _ this (LF he i)
 ·refine h.own p k xs ?_;by_cases hc:∀j,p≠.c n j
  ·rwa [ho p hc] at e
  ·exfalso;apply hc;rintro j rfl;unfold aB at e;simp[at_,uL] at e
 ·simp only[uL] at e;split at e
  ·obtain⟨as,g1,g2,g3⟩:=h.box b cs e;refine⟨as,g1,g2,fun j c hc=>?_⟩;obtain⟨k1,k2⟩:=g3 j c hc;refine⟨?_,k2⟩;simp only[hl] at k1;simp only[hlen];refine Rf ho _ k1 (LD (De hH b cs ?_) j c hc);rw[uL,if_pos ‹_›];exact e
  ·cases e
theorem ff.trim {env:Env} {base0:Nat}:∀(n:Nat) {H:Heap},ff X φ w N ⟨env,H⟩ Ha t->ff X φ w N ⟨env,trim base0 env n H⟩ Ha t
 |0,H,h=>h
 |n+1,H,h=>by
   simp only[Go.Bm.trim];split
   ·rename_i hc;exact ff.trim n (h.anl hc.2.1 hc.2.2.1 hc.2.2.2)
   ·exact h
end
end Go.Bm

/- From the hand to a slot. -/
namespace Go.Bm
open Go.Am

mutual
theorem adJ {N N':Names} {m:Rt->Rt} {g:AV->AV} (fg:N'.β=N.β) (hg:∀k p a l,g (.dX k p a l)=.dX k (m p) a l/\g (.fG k p a l)=.fG k (m p) a l) :
  ∀ x,(∀p∈aV x,N'.ν (m p)=N.ν p)->cU N' (cW g x)=cU N x
 |.dX k p a l,h=>by simp only[cW,(hg k p a l).1,cU]; rw[h p (by simp[aV])]
 |.fG k p a l,h=>by simp only[cW,(hg k p a l).2,cU]; rw[h p (by simp[aV])]
 |.ptr b off,_=>by simp only[cW,cU,fg]
 |.agg cs,h=>by simp only[cW,cU]; rw[Je fg hg cs (fun p hp=>h p (by simpa[aV] using hp))]
 |.dR cs,h=>by simp only[cW,cU]; rw[Je fg hg cs (fun p hp=>h p (by simpa[aV] using hp))]
 |.func f a b,h=>by
   simp only[cW,cU];rw[Je fg hg a (fun p hp=>h p (by simp only[aV,aI]; exact .inl hp)),Je fg hg b (fun p hp=>h p (by simp only[aV,aI]; exact .inr hp))]
 |.any,_=>rfl
 |.undef,_=>rfl
 |.fY,_=>rfl
 |.gh,_=>rfl
 |.dC,_=>rfl
 |.int _ _,_=>rfl
 |.bool _,_=>rfl
 |.str _,_=>rfl
 |.list _ _,_=>rfl
 |.dG _,_=>rfl
 |.own _ _,_=>rfl
 |.sl _ b _ _,_=>by simp only[cW,cU,fg]
theorem Je {N N':Names} {m:Rt->Rt} {g:AV->AV} (fg:N'.β=N.β) (hg:∀k p a l,g (.dX k p a l)=.dX k (m p) a l/\g (.fG k p a l)=.fG k (m p) a l) :
  ∀ cs,(∀p∈dz cs,N'.ν (m p)=N.ν p)->mX N' (dp g cs)=mX N cs
 |[],_=>rfl
 |x::r,h=>by
   simp only[dp,mX];rw[adJ fg hg x (fun p hp=>h p (by simp only[dz,aI]; exact .inl hp)),Je fg hg r (fun p hp=>h p (by simp only[dz,aI]; exact .inr hp))]
end
mutual
theorem TX {o o':Rt->Option (Nat × List AV)} {nb:Nat} {m:Rt->Rt} {g:AV->AV} (hg:∀k p a l,g (.dX k p a l)=.dX k (m p) a l/\g (.fG k p a l)=.fG k (m p) a l) :
  ∀ x,(∀p∈aV x,o' (m p)=o p)->cS o nb x->cS o' nb (cW g x)
 |.dX k p a l,h,hk=>by simp only[cW,(hg k p a l).1,cS] at hk ⊢; rw[h p (by simp[aV])]; exact hk
 |.fG k p a l,h,hk=>by simp only[cW,(hg k p a l).2,cS] at hk ⊢; rw[h p (by simp[aV])]; exact hk
 |.ptr b off,_,hk=>hk
 |.agg cs,h,hk=>by simp only[cW,cS] at hk ⊢; exact Lt hg cs (fun p hp=>h p (by simpa[aV] using hp)) hk
 |.dR cs,h,hk=>by simp only[cW,cS] at hk ⊢; exact Lt hg cs (fun p hp=>h p (by simpa[aV] using hp)) hk
 |.func f a b,h,hk=>by
   simp only[cW,cS] at hk ⊢;exact⟨Lt hg a (fun p hp=>h p (by simp only[aV,aI]; exact .inl hp)) hk.1,Lt hg b (fun p hp=>h p (by simp only[aV,aI]; exact .inr hp)) hk.2.1,fun hy=>by obtain⟨rfl,c,rfl⟩:=hk.2.2 hy; exact⟨rfl,c,rfl⟩⟩
 |.any,_,_=>trivial
 |.undef,_,_=>trivial
 |.fY,_,_=>trivial
 |.gh,_,_=>trivial
 |.dC,_,_=>trivial
 |.int _ _,_,_=>trivial
 |.bool _,_,_=>trivial
 |.str _,_,_=>trivial
 |.list _ _,_,_=>trivial
 |.dG _,_,_=>trivial
 |.own _ _,_,_=>trivial
 |.sl _ _ _ _,_,h=>h
theorem Lt {o o':Rt->Option (Nat × List AV)} {nb:Nat} {m:Rt->Rt} {g:AV->AV} (hg:∀k p a l,g (.dX k p a l)=.dX k (m p) a l/\g (.fG k p a l)=.fG k (m p) a l) :
  ∀ cs,(∀p∈dz cs,o' (m p)=o p)->mw o nb cs->mw o' nb (dp g cs)
 |[],_,_=>trivial
 |x::r,h,hk=>by
   simp only[dp,mw] at hk ⊢;exact⟨TX hg x (fun p hp=>h p (by simp only[dz,aI]; exact .inl hp)) hk.1,Lt hg r (fun p hp=>h p (by simp only[dz,aI]; exact .inr hp)) hk.2⟩
end
theorem nq {cs:List AV} {j:Nat} {c:AV} (h:cs[j]?=some c) {p:Rt} (hp:p∈aV c):p∈dz cs:=by
 induction cs generalizing j with
 |nil=>simp at h
 |cons x r ih=>
   simp only[dz,aI];cases j with
   |zero=>simp at h; subst h; exact .inl hp
   |succ j=>exact .inr (ih (by simpa using h))
theorem Ck {N N':Names} {m:Rt->Rt} {g:AV->AV} (fg:N'.β=N.β) (hg:∀k p a l,g (.dX k p a l)=.dX k (m p) a l/\g (.fG k p a l)=.fG k (m p) a l) {r r':Rt} {x:AV} (hr:∀k xs,x=.own k xs->N'.ν r'=N.ν r) (hx:∀p∈aV x,N'.ν (m p)=N.ν p) :
  jG N' r' (cW g x)=jG N r x:=by
 have hL:lX g:=fun k p a l=>by rw[(hg k p a l).1,(hg k p a l).2]; exact⟨⟨(fun cs e=>by cases e),(fun k xs e=>by cases e)⟩,⟨(fun cs e=>by cases e),(fun k xs e=>by cases e)⟩⟩
 by_cases ho:∃k xs,x=.own k xs
 ·obtain⟨k,xs,rfl⟩:=ho;simp only[cW,jG,sN,hr k xs rfl]
 ·obtain⟨e1,e2⟩:=QP (N:=N) (N':=N') hL (r:=r) (x:=x) (fun k xs e=>ho ⟨k,xs,e⟩);obtain⟨_,e3⟩:=QP (N:=N) (N':=N') hL (r:=r') (x:=x) (fun k xs e=>ho ⟨k,xs,e⟩);rw[e1,e3,adJ fg hg x hx]
theorem QO {N N':Names} {m:Rt->Rt} {g:AV->AV} (fg:N'.β=N.β) (hg:∀k p a l,g (.dX k p a l)=.dX k (m p) a l/\g (.fG k p a l)=.fG k (m p) a l) {i i':Nat} {x:AV} (h1:N'.ν (.s i')=N.ν (.s i)) (h2:∀j,N'.ν (.sc i' j)=N.ν (.sc i j)) (hx:∀p∈aV x,N'.ν (m p)=N.ν p) :
  lZ N' i' (cW g x)=lZ N i x:=by
 have hL:lX g:=fun k p a l=>by rw[(hg k p a l).1,(hg k p a l).2]; exact⟨⟨(fun cs e=>by cases e),(fun k xs e=>by cases e)⟩,⟨(fun cs e=>by cases e),(fun k xs e=>by cases e)⟩⟩
 by_cases ha:∃cs,x=.agg cs
 ·obtain⟨cs,rfl⟩:=ha;simp only[cW,lZ];congr 1;apply dW;intro j;rw[gC,gC,fc];simp only[fT];cases hc:cs[j]? with
  |none=>rfl
  |some c=>
    simp only[cG];rw[Ck fg hg (r:=.sc i j) (fun _ _ _=>h2 j) (fun p hp=>hx p (by simp only[aV]; exact nq hc hp))]
 ·have hn:kA x:=fun cs e=>ha ⟨cs,e⟩;have SC:kA (cW g x):=oI hL hn
  have e1:lZ N' i' (cW g x)=jG N' (.s i') (cW g x):=by
   generalize cW g x=y at SC;cases y<;>first|rfl|exact absurd rfl (SC _)
  have e2:lZ N i x=jG N (.s i) x:=by cases x<;>first|rfl|exact absurd rfl (hn _)
  rw[e1,e2];exact Ck fg hg (fun _ _ _=>h1) hx
section
variable {X:Nat->Prop} {φ:dx} {w:World} {N:Names} {s s':St} {Ha:Heap} {t t':Nat->Value} {B:Nat->Nat} {base:Nat}
theorem EU (i d:Nat):∀k p a l,mvB i d (.dX k p a l)=.dX k (kz i d p) a l/\mvB i d (.fG k p a l)=.fG k (kz i d p) a l:=fun _ _ _ _=>⟨rfl,rfl⟩
theorem F7 {i d:Nat} {p:Rt} (h:bP d p=false):kz d i (kz i d p)=p:=by
 cases p with
 |s j=>
   simp only[bP,decide_eq_false_iff_not] at h;simp only[kz];by_cases e:j=i
   ·subst e; simp[kz]
   ·simp[e,kz,h]
 |sc j l=>
   simp only[bP,decide_eq_false_iff_not] at h;simp only[kz];by_cases e:j=i
   ·subst e; simp[kz]
   ·simp[e,kz,h]
 |c b j=>rfl
theorem Ug {i d:Nat} {q:Rt} (h:bP i q=false):kz i d (kz d i q)=q:=F7 h
theorem ff.hand {i d:Nat} (h:ff X φ w N s Ha t) (hid:i≠d) (hC:∀r x,at_ s r=some x->∀p∈aV x,bP d p=false)
  (he:∀j,get s'.env j=if j=d then cW (mvB i d) (get s.env i) else if j=i then .any else cW (mvB i d) (get s.env j)) (hH:s'.H=gK (mvB i d) s.H) (ht:∀j,j≠i->t' j=if j=d then t i else t j) :
  ∃ N',N'.β=N.β/\ff X φ w N' s' Ha t':=by
 have hg:=EU i d;have hL:=amt i d
 have atq:∀q,bP i q=false->at_ s' q=(at_ s (kz d i q)).map (cW (mvB i d)):=by
  intro q hq;rw[<-j8 hL];cases q with
  |s j=>
    simp only[bP,decide_eq_false_iff_not] at hq;simp only[at_,he,kz,cB];by_cases e:j=d
    ·simp[e,dF,at_]
    ·simp[e,hq,dF,at_]
  |sc j l=>
    simp only[bP,decide_eq_false_iff_not] at hq;simp only[at_,he,kz,cB];by_cases e:j=d
    ·simp[e,dF,at_]
    ·simp[e,hq,dF,at_]
  |c b j=>simp only[at_,hH,kz,cB]
 have atn:∀q,bP i q=true->aB s' q=none:=by
  intro q hq;cases q with
  |s j=>simp only[bP,decide_eq_true_eq] at hq; subst hq; unfold aB; simp[at_,he,hid]
  |sc j l=>simp only[bP,decide_eq_true_eq] at hq; subst hq; unfold aB; simp[at_,he,hid]
  |c b j=>simp[bP] at hq
 have own:∀q,bP i q=false->aB s' q=aB s (kz d i q):=by
  intro q hq;rw[<-iX hL s (kz d i q)];exact Rc (by rw[atq q hq,j8 hL])
 have own2:∀p,bP d p=false->aB s' (kz i d p)=aB s p:=by
  intro p hp
  have hi:bP i (kz i d p)=false:=by
   cases p with
   |s j=>simp only[kz]; split<;>simp_all [bP]; exact fun e=>hid e.symm
   |sc j l=>simp only[kz]; split<;>simp_all [bP]; exact fun e=>hid e.symm
   |c b j=>rfl
  rw[own _ hi,F7 hp]
 have hlen:s'.H.length=s.H.length:=by rw[hH,fX]
 obtain⟨N',fg,hN⟩:∃N':Names,N'.β=N.β/\∀ q,N'.ν q=N.ν (kz d i q):=⟨⟨N.β,fun q=>N.ν (kz d i q)⟩,rfl,fun _=>rfl⟩;have lM:∀p,bP d p=false->N'.ν (kz i d p)=N.ν p:=fun p hp=>by rw[hN,F7 hp]
 refine⟨N',fg,⟨fun j=>?_,fun j=>?_,h.heap,fun p k xs e=>?_,fun b cs e=>?_,fun p q n e1 e2 e3 e4=>?_,fun b p e1 e2 e3=>?_,fun b c e1 e2 e3=>?_⟩⟩
 ·rw[he];by_cases hjd:j=d
  ·subst hjd;rw[if_pos rfl,ht j (jP hid),if_pos rfl];rw[QO (N:=N) (i:=i) fg hg (by simp[hN,kz]) (fun l=>by simp[hN,kz]) (fun p hp=>lM p (hC (.s i) _ rfl p hp))];exact h.env i
  ·rw[if_neg hjd];by_cases DU:j=i
   ·rw[if_pos DU]; exact .any _ _
   ·rw[if_neg DU,ht j DU,if_neg hjd];rw[QO (N:=N) (i:=j) fg hg (by simp[hN,kz,hjd]) (fun l=>by simp[hN,kz,hjd]) (fun p hp=>lM p (hC (.s j) _ rfl p hp))];exact h.env j
 ·rw[he,hlen];by_cases hjd:j=d
  ·rw[if_pos hjd];exact TX hg _ (fun p hp=>own2 p (hC (.s i) _ rfl p hp)) (h.IL i)
  ·rw[if_neg hjd];by_cases DU:j=i
   ·rw[if_pos DU]; trivial
   ·rw[if_neg DU];exact TX hg _ (fun p hp=>own2 p (hC (.s j) _ rfl p hp)) (h.IL j)
 ·cases hq:bP i p with
  |true=>rw[atn p hq] at e; cases e
  |false=>rw[own p hq] at e; rw[hN]; exact h.own _ k xs e
 ·rw[hH,fR] at e;cases hb:aH s.H b with
  |none=>rw[hb] at e; cases e
  |some ds=>
    rw[hb] at e;simp at e;subst e;obtain⟨as,g1,g2,g3⟩:=h.box b ds hb;refine⟨as,by rw[fg]; exact g1,by rw[cQ]; exact g2,fun j c hc=>?_⟩;rw[fc] at hc;cases hd:ds[j]? with
    |none=>rw[hd] at hc; cases hc
    |some c0=>
      rw[hd] at hc;simp at hc;subst hc;have hcc:=fun p hp=>hC (.c b j) c0 (by rw[AE hb]; exact hd) p hp;obtain⟨k1,a,k2,k3⟩:=g3 j c0 hd;refine⟨by rw[hlen]; exact TX hg _ (fun p hp=>own2 p (hcc p hp)) k1,a,k2,?_⟩;rw[Ck (N:=N) (r:=.c b j) fg hg (fun _ _ _=>by rw[hN]; rfl) (fun p hp=>lM p (hcc p hp))];exact k3
 ·have hp:bP i p=false:=by
   cases hq:bP i p with
   |true=>rw[atn p hq] at e1; cases e1
   |false=>rfl
  have hq:bP i q=false:=by
   cases hq:bP i q with
   |true=>rw[atn q hq] at e2; cases e2
   |false=>rfl
  rw[own p hp] at e1;rw[own q hq] at e2;rw[hN] at e3 e4;have:=h.inj _ _ n e1 e2 e3 e4;rw[<-Ug (d:=d) hp,this,Ug hq]
 ·have hp:bP i p=false:=by
   cases hq:bP i p with
   |true=>rw[atn p hq] at e2; cases e2
   |false=>rfl
  rw[own p hp] at e2;rw[hN,fg] at e3;refine h.bx b _ ?_ e2 e3;rw[hH,fR] at e1;cases hb:aH s.H b with
  |none=>rw[hb] at e1; cases e1
  |some _=>rfl
 ·have sb:∀{b},(aH s'.H b).isSome->(aH s.H b).isSome:=by
   intro b hb;rw[hH,fR] at hb;cases e:aH s.H b with
   |none=>rw[e] at hb; cases hb
   |some _=>rfl
  rw[fg] at e3;exact h.bi b c (sb e1) (sb e2) e3
end
end Go.Bm

/- A value goes to its slot. -/
namespace Go.Bm
open Go.Am
mutual
theorem F3 {o:Rt->Option (Nat × List AV)} {nb:Nat}:∀x,cS o nb x->∀p∈aV x,(o p).isSome
 |.dX k q a l,h,p,hp=>by simp only[aV,cX] at hp; subst hp; simp only[cS] at h; obtain⟨xs,e,_⟩:=h; rw[e]; rfl
 |.fG k q a l,h,p,hp=>by simp only[aV,cX] at hp; subst hp; simp only[cS] at h; obtain⟨xs,e,_⟩:=h; rw[e]; rfl
 |.agg cs,h,p,hp=>by simp only[cS,aV] at h hp; exact EH cs h p hp
 |.dR cs,h,p,hp=>by simp only[cS,aV] at h hp; exact EH cs h p hp
 |.func f a b,h,p,hp=>by
   simp only[cS,aV,aI] at h hp;rcases hp with hp|hp
   ·exact EH a h.1 p hp
   ·exact EH b h.2.1 p hp
 |.any,_,p,hp=>by simp[aV] at hp
 |.undef,_,p,hp=>by simp[aV] at hp
 |.fY,_,p,hp=>by simp[aV] at hp
 |.gh,_,p,hp=>by simp[aV] at hp
 |.dC,_,p,hp=>by simp[aV] at hp
 |.int _ _,_,p,hp=>by simp[aV] at hp
 |.bool _,_,p,hp=>by simp[aV] at hp
 |.str _,_,p,hp=>by simp[aV] at hp
 |.list _ _,_,p,hp=>by simp[aV] at hp
 |.dG _,_,p,hp=>by simp[aV] at hp
 |.own _ _,_,p,hp=>by simp[aV] at hp
 |.ptr _ _,_,p,hp=>by simp[aV] at hp
 |.sl _ _ _ _,_,p,hp=>by simp[aV] at hp
theorem EH {o:Rt->Option (Nat × List AV)} {nb:Nat}:∀cs,mw o nb cs->∀p∈dz cs,(o p).isSome
 |[],_,p,hp=>by simp[dz] at hp
 |x::r,h,p,hp=>by
   simp only[mw,dz,aI] at h hp;rcases hp with hp|hp
   ·exact F3 x h.1 p hp
   ·exact EH r h.2 p hp
end
mutual
theorem vh {g:AV->AV} {m:Rt->Rt} (hg:∀k p a l,g (.dX k p a l)=.dX k (m p) a l/\g (.fG k p a l)=.fG k (m p) a l):∀x,(∀p∈aV x,m p=p)->cW g x=x
 |.dX k p a l,h=>by simp only[cW,(hg k p a l).1]; rw[h p (by simp[aV])]
 |.fG k p a l,h=>by simp only[cW,(hg k p a l).2]; rw[h p (by simp[aV])]
 |.agg cs,h=>by simp only[cW]; rw[uw hg cs (fun p hp=>h p (by simpa[aV] using hp))]
 |.dR cs,h=>by simp only[cW]; rw[uw hg cs (fun p hp=>h p (by simpa[aV] using hp))]
 |.func f a b,h=>by
   simp only[cW];rw[uw hg a (fun p hp=>h p (by simp only[aV,aI]; exact .inl hp)),uw hg b (fun p hp=>h p (by simp only[aV,aI]; exact .inr hp))]
 |.any,_=>rfl
 |.undef,_=>rfl
 |.fY,_=>rfl
 |.gh,_=>rfl
 |.dC,_=>rfl
 |.int _ _,_=>rfl
 |.bool _,_=>rfl
 |.str _,_=>rfl
 |.list _ _,_=>rfl
 |.dG _,_=>rfl
 |.own _ _,_=>rfl
 |.ptr _ _,_=>rfl
 |.sl _ _ _ _,_=>rfl
theorem uw {g:AV->AV} {m:Rt->Rt} (hg:∀k p a l,g (.dX k p a l)=.dX k (m p) a l/\g (.fG k p a l)=.fG k (m p) a l):∀cs,(∀p∈dz cs,m p=p)->dp g cs=cs
 |[],_=>rfl
 |x::r,h=>by
   simp only[dp];rw[vh hg x (fun p hp=>h p (by simp only[dz,aI]; exact .inl hp)),uw hg r (fun p hp=>h p (by simp only[dz,aI]; exact .inr hp))]
end
theorem IW {g:AV->AV} {m:Rt->Rt} (hg:∀k p a l,g (.dX k p a l)=.dX k (m p) a l/\g (.fG k p a l)=.fG k (m p) a l):∀H:Heap,(∀b cs,aH H b=some cs->∀p∈dz cs,m p=p)->gK g H=H
 |[],_=>rfl
 |none::r,h=>by simp only[gK]; rw[IW hg r (fun b cs hb=>h (b+1) cs (by simpa[aH] using hb))]
 |some cs::r,h=>by simp only[gK]; rw[IW hg r (fun b ds hb=>h (b+1) ds (by simpa[aH] using hb)),uw hg cs (h 0 cs rfl)]
theorem lU {f:Rt->Bool}:∀{l:List Rt},AH f l=false->∀p∈l,f p=false
 |[],_,p,hp=>by simp at hp
 |q::r,h,p,hp=>by
   simp only[AH,fi] at h;rcases aO.1 hp with e|e
   ·subst e; exact h.1
   ·exact lU h.2 p e
theorem uO {f:Rt->Bool}:∀{e:Env},Ng f e=false->∀i,∀p∈aV (get e i),f p=false
 |[],_,i,p,hp=>by simp[Am.get,aV] at hp
 |(j,v)::r,h,i,p,hp=>by
   simp only[Ng,fi] at h;simp only[Am.get] at hp;split at hp
   ·exact lU h.1 p hp
   ·exact uO h.2 i p hp
theorem xN {f:Rt->Bool}:∀{H:Heap},Nd f H=false->∀b cs,aH H b=some cs->∀p∈dz cs,f p=false
 |[],_,b,cs,hb,p,hp=>by simp[aH] at hb
 |none::r,h,b,cs,hb,p,hp=>by
   simp only[Nd] at h;cases b with
   |zero=>simp[aH] at hb
   |succ b=>exact xN h b cs (by simpa[aH] using hb) p hp
 |some ds::r,h,b,cs,hb,p,hp=>by
   simp only[Nd,fi] at h;cases b with
   |zero=>simp[aH] at hb; subst hb; exact lU h.1 p hp
   |succ b=>exact xN h.2 b cs (by simpa[aH] using hb) p hp
theorem Sa {cs:List AV} {p:Rt} (hp:p∈dz cs):∃(j:Nat) (c:AV),cs[j]?=some c/\p∈aV c:=by
 induction cs with
 |nil=>simp[dz] at hp
 |cons x r ih=>
   simp only[dz,aI] at hp;rcases hp with hp|hp
   ·exact⟨0,x,rfl,hp⟩
   ·obtain⟨j,c,h1,h2⟩:=ih hp;exact⟨j+1,c,by simpa using h1,h2⟩
theorem PZ:∀(e:Env) (l:List Nat),∃i,Am.get e i=.any/\i∉l:=by
 have key:∀e:Env,∃n,∀i,n<=i->Am.get e i=.any:=by
  intro e
  induction e with
  |nil=>exact⟨0,fun i _=>rfl⟩
  |cons p r ih=>
    obtain⟨j,v⟩:=p;obtain⟨n,hn⟩:=ih;refine⟨max n (j+1),fun i hi=>?_⟩;simp only[Am.get];rw[if_neg (by omega)];exact hn i (by omega)
 intro e l;obtain⟨n,hn⟩:=key e
 have:∃m,∀x∈l,x<m:=by
  induction l with
  |nil=>exact⟨0,fun x hx=>by simp at hx⟩
  |cons y r ih=>
    obtain⟨m,hm⟩:=ih;refine⟨max m (y+1),fun x hx=>?_⟩;rcases aO.1 hx with e|e
    ·omega
    ·have:=hm x e; omega
 obtain⟨m,hm⟩:=this;exact⟨max n m,hn _ (by omega),fun h=>by have:=hm _ h; omega⟩
section
variable {X:Nat->Prop} {φ:dx} {w:World} {s s':St} {t t':Nat->Value} {B:Nat->Nat} {base:Nat} {v:AV} {v':Value}
structure eF (X:Nat->Prop) (φ:dx) (w:World) (B:Nat->Nat) (base:Nat) (s:St) (v:AV) (t:Nat->Value) (v':Value):Prop where
 st:SB X φ w B base s t
 ok:cS (aB s) s.H.length v
 put:∀i,get s.env i=.any->SB X φ w B base ⟨put s.env i v,s.H⟩ (fun j=>if j=i then v' else t j)
theorem Sd {r:Rt} {x:AV} (h:SB X φ w B base s t) (hx:at_ s r=some x):∀p∈aV x,(aB s p).isSome:=by
 obtain⟨N,Ha,h,_⟩:=h;exact F3 x (h.EI hx)
theorem ajE {b:Nat} {cs:List AV} (h:SB X φ w B base s t) (hb:aH s.H b=some cs):∀p∈dz cs,(aB s p).isSome:=by
 intro p hp;obtain⟨j,c,h1,h2⟩:=Sa hp;exact Sd h (r:=.c b j) (by rw[AE hb]; exact h1) p h2
theorem aiu {i d:Nat} {p:Rt} (h:bP i p=false):kz i d p=p:=by
 cases p with
 |s j=>simp only[bP,decide_eq_false_iff_not] at h; simp[kz,h]
 |sc j l=>simp only[bP,decide_eq_false_iff_not] at h; simp[kz,h]
 |c b j=>rfl
theorem xM {i:Nat} {p:Rt} (hi:bY (get s.env i)=false) (hp:(aB s p).isSome):bP i p=false:=by
 obtain⟨h1,h2⟩:=eB hi;cases p with
 |s j=>
   simp only[bP,decide_eq_false_iff_not];rintro rfl;rw[h1] at hp; cases hp
 |sc j l=>
   simp only[bP,decide_eq_false_iff_not];rintro rfl;rw[h2] at hp; cases hp
 |c b j=>rfl
theorem SB.hand {i d:Nat} (h:SB X φ w B base s t) (hid:i≠d) (hC:∀r x,at_ s r=some x->∀p∈aV x,bP d p=false)
  (he:∀j,get s'.env j=if j=d then cW (mvB i d) (get s.env i) else if j=i then .any else cW (mvB i d) (get s.env j)) (hH:s'.H=gK (mvB i d) s.H) (ht:∀j,j≠i->t' j=if j=d then t i else t j):SB X φ w B base s' t':=by
 obtain⟨N,Ha,h,hb,hl⟩:=h;obtain⟨N',e,h'⟩:=h.hand hid hC he hH ht;exact⟨N',Ha,h',fun b bE=>by rw[e]; exact hb b bE,by rw[hH,fX]; exact hl⟩
theorem alC (h:eF X φ w B base s v t v') {d:Nat} (hp:putB s d v=some s') (hd:d≠fJ) (ht:∀j,t' j=if j=d then v' else t j):∃φ',SB X φ' w B base s' t'/\ft φ w φ' w:=by
 unfold putB at hp;split at hp
 ·split at hp
  case h_2=>cases hp
  rename_i N5;split at hp
  ·cases hp
  rename_i ho;simp at hp;subst hp;obtain⟨l5,h1,a1⟩:=(h.put fJ N5).Fo d;refine⟨l5,h1.hand (i:=fJ) (d:=d) (jP hd) (fun r x hx p hp=>xM (by simpa using ho) (Sd h1 hx p hp)) (fun j=>?_) ?_ (fun j hj=>?_),a1⟩
  ·simp only[RS,bQ,cB,dF]
  ·simp only[RS,cB]
  ·rw[ht,if_pos rfl,if_neg hj]
 ·rename_i hs;simp at hp;subst hp;obtain⟨i,hi,hid⟩:=PZ s.env [d];have hid':i≠d:=fun e=>hid (by simp[e]);have hio:bY (get s.env i)=false:=by rw[hi]; rfl
  have NA:=h.put i hi;have Uf:∀{p},(aB s p).isSome->kz i d p=p:=fun hp=>aiu (xM hio hp);refine⟨φ,NA.hand (i:=i) (d:=d) hid' (fun r x hx p hp=>?_) (fun j=>?_) ?_ (fun j hj=>?_),.refl _ _⟩
  ·simp only[S0,ae,not_and,Bool.not_eq_true] at hs;cases hod:bY (get s.env d) with
   |false=>
     refine xM (s:=⟨put s.env i v,s.H⟩) (i:=d) ?_ (Sd NA hx p hp);simp only[bQ];rw[if_neg (jP hid')];exact hod
   |true=>
     have hn:=hs hod;simp only[Nh,fi] at hn;cases r with
     |s j=>
       simp only[at_,bQ,af] at hx;subst hx;split at hp
       ·exact lU hn.1 p hp
       ·exact uO hn.2.1 j p hp
     |sc j l=>
       simp only[at_,bQ] at hx;split at hx
       ·rename_i cs dQ;split at dQ
        ·subst dQ;exact lU hn.1 p (by simp only[aV]; exact nq hx hp)
        ·exact uO hn.2.1 j p (by rw[dQ]; simp only[aV]; exact nq hx hp)
       ·cases hx
     |c b l=>
       simp only[at_] at hx;split at hx
       ·rename_i cs dQ;exact xN hn.2.2 b cs dQ p (nq hx hp)
       ·cases hx
  ·simp only[bQ];by_cases hjd:j=d
   ·rw[if_pos hjd,if_pos hjd,if_pos trivial,vh (EU i d) v (fun p hp=>Uf (F3 v h.ok p hp))]
   ·rw[if_neg hjd,if_neg hjd];by_cases DU:j=i
    ·rw[if_pos DU,DU]; exact hi
    ·rw[if_neg DU,if_neg DU,vh (EU i d) _ (fun p hp=>Uf (Sd h.st (r:=.s j) rfl p hp))]
  ·exact (IW (EU i d) s.H (fun b cs hb p hp=>Uf (ajE h.st hb p hp))).symm
  ·rw[ht,if_pos rfl,if_neg hj]
theorem ah0 (h:eF X φ w B base s v t v') {d:Option Nat} (hp:B5 s d v=some s') (hd:d≠some fJ) (ht:∀j,t' j=if some j=d then v' else t j):∃φ',SB X φ' w B base s' t'/\ft φ w φ' w:=by
 cases d with
 |none=>
   simp[B5] at hp;subst hp;refine⟨φ,?_,.refl _ _⟩;obtain⟨N,Ha,h1,hb⟩:=h.st;have:t'=t:=by funext j; rw[ht,if_neg (by simp)]
   rw[this];exact⟨N,Ha,h1,hb⟩
 |some d=>exact alC h (by simpa[B5] using hp) (fun e=>hd (by rw[e])) (fun j=>by rw[ht]; simp)
end
end Go.Bm

/- Operations that change nothing, in both machines. -/
namespace Go.Bm
open Go.Am

def Dv:AV->Bool
 |.bool _|.int _ _|.dC|.fY|.gh|.undef|.str _=>true
 |_=>false
def qd:List AV->Bool
 |[]=>true
 |x::r=>Dv x&&qd r
def isC:AV->Bool
 |.agg cs=>qd cs
 |.func f [] []=>!kB f
 |x=>Dv x
theorem aco {v:Value} {x:AV} (h:MP v x=true):Dv x=true:=by
 unfold MP at h;split at h<;>first|rfl|cases h
theorem R7:∀{vs:List Value} {xs:List AV},uE vs xs=true->qd xs=true
 |[],[],_=>rfl
 |[],_::_,h=>by simp[uE] at h
 |_::_,[],h=>by simp[uE] at h
 |v::r,x::s,h=>by
   simp only[uE,ae] at h;simp only[qd,ae];exact⟨aco h.1,R7 h.2⟩
theorem E8 {x:AV} (h:Dv x=true):isC x=true:=by cases x<;>first|(simp[Dv] at h; done)|rfl|exact h
theorem amZ {o:Operand} {a:AV} (h:dj o (.k a)=true):isC a=true:=by
 unfold dj at h;split at h
 ·rename_i hk; cases hk
 ·rename_i v x hk;cases hk;unfold chkV at h;split at h
  ·exact R7 h
  ·exact E8 (aco h)
 ·rename_i f g hk; cases hk; rfl
 ·rename_i hk; cases hk
 ·cases h
theorem adM (N:Names) {x:AV} (h:Dv x=true):cU N x=x:=by cases x<;>first|rfl|simp[Dv] at h
theorem adL (N:Names):∀{xs:List AV},qd xs=true->mX N xs=xs
 |[],_=>rfl
 |x::r,h=>by
   simp only[qd,ae] at h;simp only[mX];rw[adM N h.1,adL N h.2]
theorem tr_c (N:Names) {x:AV} (h:isC x=true):cU N x=x:=by
 unfold isC at h;split at h
 ·simp only[cU]; rw[adL N h]
 ·rfl
 ·exact adM N h
theorem dn_c {x:AV} (h:isC (dnV x)=true):(∃k,x=.own k []/\dnV x=.dC)\/(isC x=true/\dnV x=x):=by
 unfold dnV at h ⊢;split
 ·exact .inl ⟨_,rfl,rfl⟩
 ·rename_i hn;split at h
  ·rename_i k; exact absurd rfl (hn k)
  ·exact .inr ⟨h,rfl⟩

def gU (N:Names):AV->AV
 |.own _ _=>.dC
 |x=>cU N x
def iR (N:Names):List AV->List AV
 |[]=>[]
 |x::r=>gU N x::iR N r
def zd (N:Names):AV->AV
 |.own _ _=>.dC
 |.agg cs=>.agg (iR N cs)
 |x=>cU N x
def EO:AV->Prop
 |.own _ xs=>xs=[]
 |.agg cs=>∀(j k:Nat) (xs:List AV),cs[j]?=some (.own k xs)->xs=[]
 |_=>True
theorem qR (N:Names):∀(cs:List AV) (i:Nat),(iR N cs)[i]?=(cs[i]?).map (gU N)
 |[],i=>by simp[iR]
 |x::r,i=>by cases i<;>simp[iR,qR N r]
theorem jH (N:Names):∀cs:List AV,(iR N cs).length=cs.length
 |[]=>rfl
 |x::r=>by simp[iR,jH N r]
theorem mW (N:Names):∀{cs:List AV},bS cs=false->iR N cs=mX N cs
 |[],_=>rfl
 |x::r,h=>by
   simp only[iR,mX];cases x<;>simp[bS] at h<;>rw[mW N h]<;>rfl
theorem nF (N:Names) {x:AV} (h:bY x=false):zd N x=cU N x:=by
 cases x<;>first|rfl|(simp[bY] at h; done)|skip
 rename_i cs;simp only[bY] at h;simp only[zd,cU];rw[mW N h]
theorem ahz (N:Names) {x:AV} (h:∀cs,x=.agg cs->bS cs=false):gU N x=zd N x:=by
 cases x<;>first|rfl|skip
 rename_i cs;simp only[gU,cU,zd];rw[mW N (h cs rfl)]
theorem PE (f:Nat->Rt):∀(cs:List AV) (j:Nat),bS (fj f j cs)=false
 |[],j=>rfl
 |x::r,j=>by
   have ih:=PE f r (j+1);cases x<;>simp[fj,bS,ih]
theorem Uw (i:Nat) (v:AV):bY (fE i v)=false:=by
 cases v<;>simp[fE,bY]
 exact PE _ _ _
theorem Gh (f:Nat->Rt):∀(cs:List AV) (j i:Nat),(fj f j cs)[i]?=(cs[i]?).map (fun x=>match x with
  |.own k xs=>.dX k (f (j+i)) 0 xs.length
  |x=>x)
 |[],j,i=>by simp[fj]
 |x::r,j,i=>by
   cases i with
   |zero=>cases x<;>simp[fj]
   |succ i=>
     have ih:=Gh f r (j+1) i;rw[show j+1+i=j+(i+1) by omega] at ih;cases x<;>simp[fj,ih]
theorem Jf (N:Names) (f:Nat->Rt):∀(cs:List AV) (j:Nat),mX N (fj f j cs)=WN N f j cs
 |[],j=>rfl
 |x::r,j=>by
   have ih:=Jf N f r (j+1);cases x<;>simp[fj,mX,WN,jG,ih]
   simp only[cU,sN,rJ]
theorem Y6 (N:Names) (i:Nat) (v:AV):cU N (fE i v)=lZ N i v:=by
 cases v<;>first|rfl|skip
 ·simp only[fE,cU,lZ]; rw[Jf]
 ·simp only[fE,cU,lZ,jG,sN,rJ]
section
variable {X:Nat->Prop} {φ:dx} {w:World} {N:Names} {s:St} {Ha:Heap} {t:Nat->Value} {c:eS} {cA:Am.eS}
theorem akz {o:Rt->Option (Nat × List AV)} {nb:Nat} {x:AV} (h:Dv x=true):cS o nb x:=by cases x<;>first|trivial|simp[Dv] at h
theorem afy {o:Rt->Option (Nat × List AV)} {nb:Nat}:∀{xs:List AV},qd xs=true->mw o nb xs
 |[],_=>trivial
 |x::r,h=>by simp only[qd,ae] at h; exact⟨akz h.1,afy h.2⟩
theorem ok_c {o:Rt->Option (Nat × List AV)} {nb:Nat} {x:AV} (h:isC x=true):cS o nb x:=by
 unfold isC at h;split at h
 ·exact afy h
 ·exact⟨trivial,trivial,fun hy=>by rw[hy] at h; cases h⟩
 ·exact akz h
theorem Gk:∀{xs:List AV},qd xs=true->bS xs=false
 |[],_=>rfl
 |x::r,h=>by
   simp only[qd,ae] at h;have:=Gk h.2;cases x<;>first|(simp[Dv] at h; done)|simpa[bS] using this
theorem aiO {x:AV} (h:isC x=true):bY x=false:=by
 unfold isC at h;split at h
 ·exact Gk h
 ·rfl
 ·rename_i h1 h2;cases x<;>first|rfl|(simp[Dv] at h; done)
theorem abi (h:ff X φ w N s Ha t) (i:Nat):cS (aB s) s.H.length (fE i (get s.env i)):=by
 have hk:=h.IL i;have zf:at_ s (.s i)=some (get s.env i):=rfl;cases hv:get s.env i<;>rw[hv] at hk zf<;>try exact hk
 ·rename_i cs;simp only[fE,cS] at hk ⊢;refine gO.2 fun j c hc=>?_;rw[Gh] at hc;cases hd:cs[j]? with
  |none=>rw[hd] at hc; cases hc
  |some d=>
    rw[hd] at hc;simp only[cG,af,fT] at hc;subst hc;have hdk:=gO.1 hk j d hd;split
    ·rename_i k xs;simp only[cS];exact⟨xs,cD.2 (by rw[M8 hv]; exact hd),by omega⟩
    ·exact hdk
 ·rename_i k xs;simp only[fE,cS];exact⟨xs,cD.2 zf,by omega⟩
structure sR (N:Names) (s:St) (c:eS) (cA:Am.eS) (x:E):Prop where
 ev:Am.ev cA (DR N s.env) (nI x)=gU N (bq c s.env x)
 ok:cS (aB s) s.H.length (bq c s.env x)
 eo:∀k xs,bq c s.env x=.own k xs->xs=[]
 na:∀cs,bq c s.env x=.agg cs->bS cs=false
theorem cM (h:ff X φ w N s Ha t) (uT:cA.gl=c.gl) {o:Operand} {x:E} (hk:dj o (nI x)=true):sR N s c cA x:=by
 cases x with
 |t i=>
   have hl:=Uw i (get s.env i);refine⟨?_,abi h i,fun k xs e=>?_,fun cs e=>?_⟩
   ·simp only[nI,Am.ev,bq,pN];rw[<-Y6];generalize fE i (get s.env i)=y at hl;cases y<;>first|rfl|simp[bY] at hl
   ·simp only[bq] at e; rw[e] at hl; simp[bY] at hl
   ·simp only[bq] at e; rw[e] at hl; exact hl
 |k a=>
   simp only[nI] at hk;rcases dn_c (amZ hk) with⟨k,rfl,e⟩|⟨hc,e⟩
   ·exact⟨rfl,trivial,fun k' xs e=>by simp only[bq,AV.own.injEq] at e; exact e.2.symm,fun cs e=>by simp[bq] at e⟩
   ·refine⟨?_,ok_c hc,fun k xs e'=>?_,fun cs e'=>?_⟩
    ·simp only[nI,Am.ev,bq,e];have:=tr_c N hc;have hn:=aiO hc;cases a<;>first|exact this.symm|(simp[bY] at hn; done)
    ·simp only[bq] at e'; rw[e'] at hc; simp[isC,Dv] at hc
    ·simp only[bq] at e'; rw[e'] at hc; exact Gk hc
 |g i=>exact⟨by simp[nI,Am.ev,bq,gU,cU,uT],trivial,fun k xs e=>by simp[bq] at e,fun cs e=>by simp[bq] at e⟩
theorem sR.int {x:E} (h:sR N s c cA x) {k:IntKind} {n:Int} (e:bq c s.env x=.int k n):Am.ev cA (DR N s.env) (nI x)=.int k n:=by rw[h.ev,e]; rfl
theorem sR.bool {x:E} (h:sR N s c cA x) {b:Bool} (e:bq c s.env x=.bool b):Am.ev cA (DR N s.env) (nI x)=.bool b:=by rw[h.ev,e]; rfl
theorem wu (h:ff X φ w N s Ha t) (uT:cA.gl=c.gl):∀{os:List Operand} {xs:List E},jL os (GB xs)=true->Am.I3 cA (DR N s.env) (GB xs)=iR N (dK c s.env xs)/\mw (aB s) s.H.length (dK c s.env xs)
 |_,[],_=>⟨rfl,trivial⟩
 |[],x::r,hk=>by simp[GB,jL] at hk
 |o::os,x::r,hk=>by
   simp only[GB,jL,ae] at hk;obtain⟨h1,h2⟩:=wu h uT hk.2;have h3:=cM (c:=c) h uT hk.1;exact⟨by simp only[GB,Am.I3,dK,iR,h1,h3.ev],h3.ok,h2⟩
theorem vI (h:ff X φ w N s Ha t) {k:Nat} {p:Rt} {off len:Nat} (ho:cS (aB s) s.H.length (.dX k p off len)) :
  (∃n,N.ν p=some n/\cU N (.dX k p off len)=.sl k n (off*k) len)\/(N.ν p=none/\off=0/\len=0/\cU N (.dX k p off len)=.dC):=by
 simp only[cS] at ho;obtain⟨xs,h1,h2⟩:=ho;cases lM:N.ν p with
 |some n=>exact .inl ⟨n,rfl,by simp[cU,lM]⟩
 |none=>
   have:=h.own p k xs h1;rw[lM] at this;have hx:xs=[]:=this;subst hx;simp at h2;exact .inr ⟨rfl,h2.1,h2.2,by simp[cU,lM]⟩
theorem Ld (h:ff X φ w N s Ha t) {k:Nat} {p:Rt} {i off:Nat} (ho:cS (aB s) s.H.length (.fG k p i off)):∃n,N.ν p=some n/\cU N (.fG k p i off)=.ptr n (i*k+off):=by
 simp only[cS] at ho;obtain⟨xs,h1,h2⟩:=ho;cases lM:N.ν p with
 |some n=>exact⟨n,rfl,by simp[cU,lM]⟩
 |none=>
   have:=h.own p k xs h1;rw[lM] at this;have hx:xs=[]:=this;subst hx;simp at h2
end
end Go.Bm

/- Operations that change nothing: the older machine does the same. -/
namespace Go.Bm
open Go.Am
section
variable {P:Program}
theorem amV {op:Op} {y:E} (h:di P op (.mv y)=true):∃x,dj x y=true:=by
 unfold di at h; split at h<;>simp_all<;>exact⟨_,h⟩
theorem ag0 {op:Op} {a b d:E} (h:di P op (.pick a b d)=true):(∃x,dj x a=true)/\(∃x,dj x b=true)/\∃ x,dj x d=true:=by
 unfold di at h; split at h<;>simp_all; exact⟨⟨_,h.1.1⟩,⟨_,h.1.2⟩,⟨_,h.2⟩⟩
theorem ajx {op:Op} {y:E} (h:di P op (.box y)=true):∃x,dj x y=true:=by
 unfold di at h; split at h<;>simp_all; exact⟨_,h⟩
theorem ads {op:Op} {y:E} (h:di P op (.pD y)=true):∃x,dj x y=true:=by
 unfold di at h; split at h<;>simp_all; exact⟨_,h⟩
theorem ajy {op:Op} {bo:BinOp} {a b:E} (h:di P op (.bin bo a b)=true):(∃x,dj x a=true)/\∃ x,dj x b=true:=by
 unfold di at h; split at h<;>simp_all; exact⟨⟨_,h.1.2⟩,⟨_,h.2⟩⟩
theorem amY {op:Op} {ng:Bool} {t:Et} {a b:E} (h:di P op (.eq ng t a b)=true):(∃x,dj x a=true)/\∃ x,dj x b=true:=by
 unfold di at h; split at h<;>simp_all; exact⟨⟨_,h.1.2⟩,⟨_,h.2⟩⟩
theorem amT {op:Op} {uo:UnOp} {y:E} (h:di P op (.un uo y)=true):∃x,dj x y=true:=by
 unfold di at h; split at h<;>simp_all; exact⟨_,h.2⟩
theorem ajv {op:Op} {k:IntKind} {y:E} (h:di P op (.SH k y)=true):∃x,dj x y=true:=by
 unfold di at h; split at h<;>simp_all; exact⟨_,h.2⟩
theorem ajl {op:Op} {fn:Fn} {a b:List E} (h:di P op (.Sy fn a b)=true):(∃x,jL x a=true)/\∃ x,jL x b=true:=by
 unfold di at h; split at h<;>simp_all; exact⟨⟨_,h.1.2⟩,⟨_,h.2⟩⟩
theorem ack {op:Op} {k:Nat} {zs:List AV} {a b:E} (h:di P op (.Rr k zs a b)=true):(∃t,jA P t k=true/\jb P t zs=true)/\(∃x,dj x a=true)/\∃ x,dj x b=true:=by
 unfold di at h; split at h<;>simp_all; exact⟨⟨_,h.1.1⟩,⟨_,h.1.2⟩,⟨_,h.2⟩⟩
theorem ajt {op:Op} {off:Nat} {y:E} (h:di P op (.vL off y)=true):∃x,dj x y=true:=by
 unfold di at h; split at h<;>simp_all; exact⟨_,h.2⟩
theorem acm {op:Op} {n:Nat} {y:E} {hi:Option E} (h:di P op (.Of n y hi)=true):(∃x,dj x y=true)/\∀ e,hi=some e->∃x,dj x e=true:=by
 unfold di at h; split at h<;>simp_all
 refine⟨⟨_,h.2.1⟩,fun e he=>?_⟩;subst he; have:=h.2.2; unfold uI at this; split at this<;>simp_all; exact⟨_,this⟩
theorem ajs {op:Op} {off:Nat} {ag:Option Nat} {y:E} (h:di P op (.fld off ag y)=true):∃x,dj x y=true:=by
 unfold di at h; split at h<;>simp_all; exact⟨_,h.2⟩
theorem ajr {op:Op} {k:Nat} {a b:E} (h:di P op (.ti k a b)=true):(∃x,dj x a=true)/\∃ x,dj x b=true:=by
 unfold di at h; split at h<;>simp_all; exact⟨⟨_,h.1.2⟩,⟨_,h.2⟩⟩
theorem ajq {op:Op} {n k:Nat} {a b:E} (h:di P op (.wC n k a b)=true):(∃x,dj x a=true)/\∃ x,dj x b=true:=by
 unfold di at h; split at h<;>simp_all; exact⟨⟨_,h.1.2⟩,⟨_,h.2⟩⟩
theorem amX {op:Op} {n k:Nat} {ag:Option Nat} {a b:E} (h:di P op (.ix n k ag a b)=true):(∃x,dj x a=true)/\∃ x,dj x b=true:=by
 unfold di at h; split at h<;>simp_all; exact⟨⟨_,h.1.2⟩,⟨_,h.2⟩⟩
theorem aju {op:Op} {i:Nat} {y:E} (h:di P op (.ext i y)=true):∃x,dj x y=true:=by
 unfold di at h; split at h<;>simp_all; exact⟨_,h.2⟩
theorem ajp {op:Op} {tab:List Nat} {y:E} (h:di P op (.ixs tab y)=true):∃x,dj x y=true:=by
 unfold di at h; split at h<;>simp_all; exact⟨_,h.2⟩
theorem ajo {op:Op} {y:E} (h:di P op (.len y)=true):∃x,dj x y=true:=by
 unfold di at h; split at h<;>simp_all
 split at h<;>simp_all; exact⟨_,h.2⟩
theorem ajm {op:Op} {ys:List E} (h:di P op (.min ys)=true):∃x,jL x ys=true:=by
 unfold di at h; split at h<;>simp_all; exact⟨_,h⟩
theorem ajn {op:Op} {ys:List E} (h:di P op (.max ys)=true):∃x,jL x ys=true:=by
 unfold di at h; split at h<;>simp_all; exact⟨_,h⟩
theorem ajj {op:Op} {k:Nat} {y:E} {lo hi:Option E} (h:di P op (.Io k y lo hi)=true):(∃x,dj x y=true)/\(∀e,lo=some e->∃x,dj x e=true)/\∀ e,hi=some e->∃x,dj x e=true:=by
 unfold di at h; split at h<;>simp_all
 refine⟨⟨_,h.1.1.2⟩,fun e he=>?_,fun e he=>?_⟩
 ·subst he; have:=h.1.2; unfold uI at this; split at this<;>simp_all; exact⟨_,this⟩
 ·subst he; have:=h.2; unfold uI at this; split at this<;>simp_all; exact⟨_,this⟩
theorem BD {place:Nat->Option (Nat × Nat)}:∀{ps:List (Nat × Operand)} {qs:List (Nat × Nat × E)},uF place ps qs=true->∀q∈qs,∃x,dj x q.2.2=true
 |[],[],_,q,hq=>by simp at hq
 |[],_::_,h,_,_=>by simp[uF] at h
 |_::_,[],h,_,_=>by simp[uF] at h
 |p::r,q::s,h,q',hq=>by
   simp only[uF,ae] at h;rcases aO.1 hq with e|e
   ·subst e; exact⟨_,h.1.2⟩
   ·exact BD h.2 q' e
theorem adu {op:Op} {zs:List AV} {ps:List (Nat × Nat × E)} (h:di P op (.build zs ps)=true):(∃t,rO P t zs=true)/\∀ q∈ps,∃x,dj x q.2.2=true:=by
 unfold di at h; split at h<;>simp_all
 obtain⟨h1,h2⟩:=h;refine⟨⟨_,h1⟩,?_⟩;split at h2
 ·simp_all; exact fun a b e hq=>BD h2.2 (a,b,e) hq
 ·split at h2
  ·exact fun a b e hq=>BD h2 (a,b,e) hq
  ·cases h2
 ·cases h2
theorem YF {op:Op} {k n:Nat} {zs:List AV} {ps:List (Nat × Nat × E)} (h:di P op (.dw k n zs ps)=true):(∃t,jA P t k=true/\jb P t zs=true)/\∀ q∈ps,∃x,dj x q.2.2=true:=by
 unfold di at h; split at h<;>simp_all
 exact⟨⟨_,h.1.1.1.2,h.1.1.2⟩,fun a b e hq=>BD h.2 (a,b,e) hq⟩
theorem amW {op:Op} {ag:Option Nat} {y:E} (h:di P op (.ld ag y)=true):∃x,dj x y=true:=by
 unfold di at h; split at h<;>simp_all; exact⟨_,h.2⟩
theorem amU {op:Op} {k:Nat} {a b:E} (h:di P op (.st k a b)=true):(∃x,dj x a=true)/\∃ x,dj x b=true:=by
 unfold di at h; split at h<;>simp_all; exact⟨⟨_,h.1.2⟩,⟨_,h.2⟩⟩
theorem ajk {op:Op} {zs:List AV} (h:di P op (.new zs)=true):∃t,rO P t zs=true:=by
 unfold di at h; split at h<;>simp_all; exact⟨_,h⟩
theorem ajw {op:Op} {k:Nat} {zs:List AV} {y:E} (h:di P op (.Rg k zs y)=true):(∃t,jA P t k=true/\jb P t zs=true)/\∃ x,dj x y=true:=by
 unfold di at h; split at h<;>simp_all
 split at h<;>simp_all; exact⟨⟨_,h.1.1,h.1.2⟩,⟨_,h.2⟩⟩
theorem acn {op:Op} {k:Nat} {a b:E} (h:di P op (.app k a b)=true):(∃x,dj x a=true)/\∃ x,dj x b=true:=by
 unfold di at h; split at h<;>simp_all
 split at h<;>simp_all; exact⟨⟨_,h.1.2⟩,⟨_,h.2⟩⟩
theorem V0 {op:Op} {k:Nat} {a b:E} (h:di P op (.copy k a b)=true):(∃x,dj x a=true)/\∃ x,dj x b=true:=by
 unfold di at h; split at h<;>simp_all
 split at h<;>simp_all; exact⟨⟨_,h.1.2⟩,⟨_,h.2⟩⟩
theorem vP {t:TypeId} {zs:List AV} (h:rO P t zs=true):qd zs=true/\bF zs=true:=by
 unfold rO at h;split at h
 ·split at h
  ·simp only[ae] at h; exact⟨R7 h.1,h.2⟩
  ·cases h
 ·cases h
end
end Go.Bm

/- Operations that change nothing: what they give. -/
set_option linter.unusedVariables false
namespace Go.Bm
open Go.Am
section
variable {P:Program} {X:Nat->Prop} {φ:dx} {w:World} {N:Names} {s:St} {Ha:Heap} {t:Nat->Value} {c:eS} {cA:Am.eS} {call:Nat->List AV->Heap->Option (AV × Heap)}
theorem vQ (N:Names) (cs:List AV):iR N cs=cs.map (gU N):=by
 induction cs with
 |nil=>rfl
 |cons x r ih=>simp[iR,ih]
theorem Y8 (N:Names) (cs:List AV):mX N cs=cs.map (cU N):=by
 induction cs with
 |nil=>rfl
 |cons x r ih=>simp[mX,ih]
theorem sR.EO {x:E} (h:sR N s c cA x):EO (bq c s.env x):=by
 cases e:bq c s.env x<;>simp only[Go.Bm.EO]
 ·rename_i cs;intro j k xs hj;exfalso;have:=h.na cs e;clear e
  induction cs generalizing j with
  |nil=>simp at hj
  |cons y r ih=>
    cases j with
    |zero=>simp at hj; subst hj; simp[bS] at this
    |succ j=>exact ih j (by simpa using hj) (by cases y<;>simp[bS] at this<;>exact this)
 ·exact h.eo _ _ e
theorem sR.evQ {x:E} (h:sR N s c cA x):Am.ev cA (DR N s.env) (nI x)=zd N (bq c s.env x):=by rw[h.ev,ahz N h.na]
theorem Ru (h:ff X φ w N s Ha t) {x:AV} (hl:x.leaf=true) (hk:cS (aB s) s.H.length x):(gU N x).leaf=true:=by
 cases x<;>first|rfl|(simp[AV.leaf] at hl; done)|skip
 ·rename_i k p off len;simp only[gU,cU];cases N.ν p<;>rfl
 ·rename_i k p i off;obtain⟨n,_,e⟩:=Ld h hk;simp only[gU,e,AV.leaf]
theorem xO (h:ff X φ w N s Ha t):∀{cs:List AV},bF cs=true->mw (aB s) s.H.length cs->bF (iR N cs)=true
 |[],_,_=>rfl
 |x::r,hl,hk=>by
   simp only[bF,ae] at hl;simp only[iR,bF,ae];exact⟨Ru h hl.1 hk.1,xO h hl.2 hk.2⟩
theorem MU (N:Names) {x:AV} (hn:∀cs,x=.agg cs->bS cs=false):(gU N x).cells=iR N x.cells:=by
 cases x<;>first|rfl|skip
 ·rename_i cs; simp only[gU,cU,AV.cells]; rw[mW N (hn cs rfl)]
 ·rename_i k p off len;simp only[gU,cU,AV.cells,iR];cases N.ν p<;>rfl
 ·rename_i k p i off;simp only[gU,cU,AV.cells,iR];cases N.ν p<;>rfl
theorem zZ {o:Rt->Option (Nat × List AV)} {nb:Nat} {x:AV} (h:cS o nb x):mw o nb x.cells:=by
 cases x<;>first|exact⟨h,trivial⟩|exact h
theorem TZ {o:Rt->Option (Nat × List AV)} {nb n:Nat} {cs:List AV} (h:mw o nb cs):mw o nb (cs.take n):=
 gO.2 fun i c hc=>gO.1 h i c (by rw[bT] at hc; split at hc; exact hc; cases hc)
theorem EK {o:Rt->Option (Nat × List AV)} {nb n:Nat} {cs:List AV} (h:mw o nb cs):mw o nb (cs.drop n):=
 gO.2 fun i c hc=>gO.1 h (n+i) c (by rw[bk] at hc; exact hc)
theorem ur {o:Rt->Option (Nat × List AV)} {nb:Nat}:∀{cs ds:List AV},mw o nb cs->mw o nb ds->mw o nb (cs++ds)
 |[],_,_,h=>h
 |x::r,_,h,k=>⟨h.1,ur h.2 k⟩
theorem aiq {o:Rt->Option (Nat × List AV)} {nb off:Nat} {cs ds:List AV} (h:mw o nb cs) (k:mw o nb ds):mw o nb (kj cs off ds):=ur (ur (TZ h) k) (EK h)
theorem akU (N:Names) (cs ds:List AV) (off:Nat):iR N (kj cs off ds)=kj (iR N cs) off (iR N ds):=by
 simp only[vQ,kj,List.map_append,List.map_take,GO,aX]
def SX (cs:List AV):Prop:=∀(j k:Nat) (xs:List AV),cs[j]?=some (.own k xs)->xs=[]
theorem SX.kj {cs ds:List AV} {off:Nat} (h:SX cs) (k:SX ds):SX (Am.kj cs off ds):=by
 intro j kk xs hj;have:=bp hj;simp only[Am.kj,aI] at this
 have mem:∀{l:List AV},SX l->(.own kk xs)∈l->xs=[]:=fun hl hm=>by
  obtain⟨i,hi⟩:=bG hm;exact hl i _ _ hi
 rcases this with (hm|hm)|hm
 ·exact mem h (du hm)
 ·exact mem k hm
 ·exact mem h (dv hm)
theorem sR.SX {x:E} (h:sR N s c cA x):SX (bq c s.env x).cells:=by
 have he:=h.EO;cases e:bq c s.env x<;>rw[e] at he<;>simp only[AV.cells]<;>first|exact he|skip
 all_goals
  intro j k xs hj;cases j with
  |zero=>simp at hj<;>exact hj.2▸(by first|exact he|exact he)
  |succ j=>simp at hj
theorem vp (h:ff X φ w N s Ha t) (uT:cA.gl=c.gl):∀{ps:List (Nat × Nat × E)} {zs cs:List AV},(∀q∈VP ps,∃x,dj x q.2.2=true)->mw (aB s) s.H.length zs->SX zs->tc c s.env zs ps=some cs ->
  rD cA (DR N s.env) (iR N zs) (VP ps)=some (iR N cs)/\mw (aB s) s.H.length cs/\SX cs/\cs.length=zs.length
 |[],zs,cs,_,hz,he,hf=>by simp[tc] at hf; subst hf; exact⟨rfl,hz,he,rfl⟩
 |(off,sz,x)::r,zs,cs,hq,hz,he,hf=>by
   simp only[tc] at hf;split at hf
   case isFalse=>cases hf
   rename_i hc;obtain⟨c1,c2,c3⟩:=hc;obtain⟨o,ho⟩:=hq (off,sz,nI x) (by simp[VP]);have hx:=cM (c:=c) (cA:=cA) h uT ho;have ja:=MU N hx.na;obtain⟨k1,k2,k3,k4⟩:=vp h uT (ps:=r) (fun q hq'=>hq q (by simp[VP,hq'])) (aiq hz (zZ hx.ok)) (he.kj hx.SX) hf;refine⟨?_,k2,k3,?_⟩
   ·simp only[VP,rD,hx.ev,ja];rw[if_pos ⟨by rw[jH]; exact c1,by rw[jH]; exact c2,xO h c3 (zZ hx.ok)⟩,<-akU];exact k1
   ·rw[k4]; exact gT (by omega)
theorem Ft (N:Names):∀{zs:List AV},qd (xH zs)=true->xH zs=iR N zs/\SX zs
 |[],_=>⟨rfl,fun j k xs h=>by simp at h⟩
 |x::r,h=>by
   simp only[xH,qd,ae] at h;obtain⟨h1,h2⟩:=Ft N h.2;rcases dn_c (E8 h.1) with⟨k,rfl,e⟩|⟨hc,e⟩
   ·refine⟨by simp only[xH,iR,h1,e,gU],fun j k xs hj=>?_⟩;cases j with
    |zero=>simp at hj; exact hj.2
    |succ j=>exact h2 j k xs (by simpa using hj)
   ·rw[e] at h;refine⟨?_,fun j k xs hj=>?_⟩
    ·simp only[xH,iR,h1,e];congr 1;have:=adM N h.1;cases x<;>first|exact this.symm|(simp[Dv] at h; done)
    ·cases j with
     |zero=>simp at hj; subst hj; simp[Dv] at h
     |succ j=>exact h2 j k xs (by simpa using hj)
theorem EG {o:Rt->Option (Nat × List AV)} {nb:Nat}:∀{zs:List AV},qd (xH zs)=true->mw o nb zs
 |[],_=>trivial
 |x::r,h=>by
   simp only[xH,qd,ae] at h;rcases dn_c (E8 h.1) with⟨k,rfl,e⟩|⟨hc,e⟩
   ·exact⟨trivial,EG h.2⟩
   ·exact⟨ok_c hc,EG h.2⟩
theorem Yn (N:Names):∀{l:List Bool} {xs ys:List AV} {e:Bool},Bz l xs ys=some e->Bz l (iR N xs) (iR N ys)=some e
 |[],[],[],e,h=>h
 |true::l,x::r,y::s,e,h=>by
   cases x<;>try (simp[Bz] at h; done)
   cases y<;>try (simp[Bz] at h; done)
   simp only[Bz,iR,gU,cU] at h ⊢;split at h
   ·rename_i hk;rw[if_pos hk];split at h
    ·rename_i e' he;rw[Yn N he];exact h
    ·cases h
   ·cases h
 |false::l,x::r,y::s,e,h=>by
   cases x<;>try (simp[Bz] at h; done)
   cases y<;>try (simp[Bz] at h; done)
   simp only[Bz,iR,gU,cU] at h ⊢;split at h
   ·rename_i e' he;rw[Yn N he];exact h
   ·cases h
 |[],x::r,ys,e,h=>by simp[Bz] at h
 |[],[],y::s,e,h=>by simp[Bz] at h
 |b::l,[],ys,e,h=>by cases b<;>simp[Bz] at h
 |b::l,x::r,[],e,h=>by cases b<;>cases x<;>simp[Bz] at h
theorem abx (N:Names) (mx:Bool):∀{xs:List AV} {x v:AV},Dk mx x xs=some v->(∃k n,x=.int k n)->Dk mx x (iR N xs)=some v/\∃ k n,v=.int k n
 |[],x,v,h,hx=>by simp[Dk] at h; subst h; exact⟨rfl,hx⟩
 |y::r,x,v,h,hx=>by
   obtain⟨k,n,rfl⟩:=hx;cases y<;>try (simp[Dk] at h; done)
   simp only[Dk,iR,gU,cU] at h ⊢;exact abx N mx h ⟨_,_,rfl⟩
theorem aby (N:Names) {mx:Bool} {xs:List AV} {v:AV} (h:BO mx xs=some v):BO mx (iR N xs)=some v/\∃ k n,v=.int k n:=by
 cases xs with
 |nil=>simp[BO] at h
 |cons y r=>
   cases y<;>try (simp[BO] at h; done)
   simp only[BO,iR,gU,cU] at h ⊢;exact abx N mx h ⟨_,_,rfl⟩
theorem acx {op:BinOp} {x y v:AV} (h:tq op x y=some v):((∃k n,x=.int k n)/\(∃k n,y=.int k n)/\((∃k n,v=.int k n)\/∃ b,v=.bool b))\/(∃a,x=.str a)/\(∃b,y=.str b)/\∃ s,v=.str s:=by
 unfold tq at h;split at h
 case h_3=>cases h
 case h_2=>
  split at h
  case h_2=>cases h
  split at h
  case isFalse=>cases h
  simp only[af] at h;exact .inr ⟨⟨_,rfl⟩,⟨_,rfl⟩,_,h.symm⟩
 refine .inl ⟨⟨_,_,rfl⟩,⟨_,_,rfl⟩,?_⟩;split at h
 ·split at h
  ·cases h
  ·simp at h; exact .inl ⟨_,_,h.symm⟩
 ·split at h
  ·cases h
  ·simp at h; exact .inl ⟨_,_,h.symm⟩
 ·split at h
  ·unfold arith at h
   split at h<;>first
    |(simp at h; exact .inl ⟨_,_,h.symm⟩)
    |(simp at h; exact .inr ⟨_,h.symm⟩)
    | (split at h
       ·cases h
       ·simp at h; exact .inl ⟨_,_,h.symm⟩)
    |cases h
  ·cases h
theorem S5 {v:AV} (h:(∃k n,v=.int k n)\/∃ b,v=.bool b) (o:Rt->Option (Nat × List AV)) (nb:Nat):zd N v=v/\cS o nb v/\EO v:=by
 rcases h with⟨k,n,rfl⟩|⟨b,rfl⟩<;>exact⟨rfl,trivial,trivial⟩
theorem W8 (N:Names) {ag:Option Nat} {cs:List AV} {v:AV} {o:Rt->Option (Nat × List AV)} {nb:Nat} (h:QY ag cs=some v) (hk:mw o nb cs):FO ag (mX N cs)=some (zd N v)/\cS o nb v/\EO v/\bY v=false:=by
 unfold QY at h;split at h
 case h_2=>cases h
 rename_i v' hr;split at h
 ·cases h
 rename_i ho;simp at h ho;subst h
 have he:EO v':=by
  cases v'<;>simp only[EO]<;>try (simp[bY] at ho; done)
  rename_i ds;intro j k xs hj;exfalso;simp only[bY] at ho;clear hr
  induction ds generalizing j with
  |nil=>simp at hj
  |cons y r ih=>
    cases j with
    |zero=>simp at hj; subst hj; simp[bS] at ho
    |succ j=>exact ih (by cases y<;>simp[bS] at ho<;>exact ho) j (by simpa using hj)
 unfold FO at hr ⊢;cases ag with
 |some k=>
   simp only at hr ⊢;split at hr
   case isFalse=>cases hr
   rename_i hle;simp at hr;subst hr;rw[if_pos (by rw[er]; exact hle),nF N ho];exact⟨by simp only[cU,Y8,List.map_take],TZ hk,he,ho⟩
 |none=>
   simp only at hr ⊢;cases cs with
   |nil=>cases hr
   |cons x r=>
     simp at hr;subst hr;rw[nF N ho];exact⟨by simp[mX],hk.1,he,ho⟩
theorem Jh (N:Names) (cs:List AV) (n:Nat):(mX N cs).drop n=mX N (cs.drop n):=by simp only[Y8,GO]
end
end Go.Bm

/- Operations that change nothing: the older machine does the same. -/
namespace Go.Bm
open Go.Am
section
variable {P:Program} {X:Nat->Prop} {φ:dx} {w:World} {N:Names} {s:St} {Ha:Heap} {t:Nat->Value} {c:eS} {cA:Am.eS} {call:Nat->List AV->Heap->Option (AV × Heap)}
theorem YJ (h:ff X φ w N s Ha t) (uT:cA.gl=c.gl) {d m n:Nat} {x:Option E} (hk:∀e,dnO x=some e->∃o,dj o e=true) (hb:DM c s.env d m x=some n):Fy cA (DR N s.env) d m (dnO x)=some n:=by
 cases x with
 |none=>exact hb
 |some x=>
   obtain⟨o,ho⟩:=hk _ rfl;simp only[DM] at hb;simp only[dnO,Fy];cases e:bq c s.env x<;>rw[e] at hb<;>try (simp[bnd] at hb; done)
   rw[(cM (c:=c) (cA:=cA) h uT ho).int e];exact hb
theorem Gq {x:AV} {n m:Nat} (h:idx x n=some m):∃k i,x=.int k i/\idx (.int k i) n=some m/\m<n:=by
 unfold idx at h;split at h
 ·rename_i k i;refine⟨k,i,rfl,h,?_⟩;split at h
  ·simp at h; omega
  ·cases h
 ·cases h
theorem abE (h:ff X φ w N s Ha t) {x:E} (hx:sR N s c cA x) {n:Nat} (hl:xq (bq c s.env x)=some n):lenA (Am.ev cA (DR N s.env) (nI x))=some n:=by
 rw[hx.ev];have hk:=hx.ok;cases e:bq c s.env x<;>rw[e] at hl hk<;>try (simp[xq] at hl; done)
 ·exact hl
 ·exact hl
 ·exact hl
 ·rename_i k xs;have:=hx.eo k xs e;subst this;exact hl
 ·rename_i k p off len;simp only[xq] at hl;cases hl;simp only[gU];rcases vI h hk with⟨m,_,e2⟩|⟨_,_,rfl,e2⟩<;>rw[e2]<;>rfl
theorem alI (h:ff X φ w N s Ha t) (uT:cA.gl=c.gl) {op:Op} {kd:Kd} {v:AV} (hk:di P op (nj kd)=true) (hs:Xm c s.env kd=some v) :
  ga cA call (DR N s.env) Ha (nj kd)=some (zd N v,Ha,.no)/\cS (aB s) s.H.length v/\EO v:=by
 cases kd<;>simp only[Xm,reduceCtorEq] at hs<;>simp only[nj] at hk ⊢
 case mv x=>
  obtain⟨o,ho⟩:=amV hk;have hx:=cM (c:=c) (cA:=cA) h uT ho;simp at hs;subst hs;exact⟨by simp only[ga,hx.evQ],hx.ok,hx.EO⟩
 case pick x a b=>
  obtain⟨⟨o1,h1⟩,⟨o2,h2⟩,o3,h3⟩:=ag0 hk;have hx:=cM (c:=c) (cA:=cA) h uT h1;have ha:=cM (c:=c) (cA:=cA) h uT h2;have hb:=cM (c:=c) (cA:=cA) h uT h3;split at hs
  case h_2=>cases hs
  rename_i b' he;simp at hs;subst hs;simp only[ga,hx.bool he];cases b'
  ·exact⟨by simp[hb.evQ],by simpa using hb.ok,by simpa using hb.EO⟩
  ·exact⟨by simp[ha.evQ],by simpa using ha.ok,by simpa using ha.EO⟩
 case build zs ps=>
  obtain⟨⟨t,ht⟩,hq⟩:=adu hk;obtain⟨e1,e2⟩:=Ft N (vP ht).1;split at hs
  case h_2=>cases hs
  rename_i cs hf;simp at hs;subst hs;obtain⟨k1,k2,k3,k4⟩:=vp (cA:=cA) h uT hq (EG (vP ht).1) e2 hf;rw[e1];exact⟨by simp only[ga,k1,zd],k2,k3⟩
 case pD x=>
  obtain⟨o,ho⟩:=ads hk;have hx:=cM (c:=c) (cA:=cA) h uT ho;have dy:=hx.ok;simp only[ga,hx.ev];cases e:bq c s.env x<;>rw[e] at hs dy<;>try (simp at hs; done)
  ·simp at hs; subst hs; exact⟨rfl,trivial,trivial⟩
  ·simp at hs; subst hs; exact⟨rfl,dy,trivial⟩
  ·rename_i f a b;cases f<;>simp at hs
   subst hs;exact⟨rfl,dy,trivial⟩
 case bin op' x y=>
  obtain⟨⟨o1,h1⟩,o2,h2⟩:=ajy hk;have hx:=cM (c:=c) (cA:=cA) h uT h1;have hy:=cM (c:=c) (cA:=cA) h uT h2;rcases acx hs with⟨⟨k1,n1,e1⟩,⟨k2,n2,e2⟩,hv⟩|⟨⟨a,e1⟩,⟨b,e2⟩,u,rfl⟩
  ·obtain⟨q1,q2,q3⟩:=S5 (N:=N) hv (aB s) s.H.length;rw[e1,e2] at hs;simp only[ga,hx.int e1,hy.int e2,hs,q1];exact⟨trivial,q2,q3⟩
  ·rw[e1,e2] at hs;have f1:=hx.ev;have f2:=hy.ev;rw[e1] at f1;rw[e2] at f2;simp only[gU,cU] at f1 f2;simp only[ga,f1,f2,hs];exact⟨rfl,trivial,trivial⟩
 case eq ng et x y=>
  obtain⟨⟨o1,h1⟩,o2,h2⟩:=amY hk;have hx:=cM (c:=c) (cA:=cA) h uT h1;have hy:=cM (c:=c) (cA:=cA) h uT h2;split at hs
  case h_2=>cases hs
  rename_i e he;simp at hs;subst hs;refine⟨?_,trivial,trivial⟩
  have:eqA et (Am.ev cA (DR N s.env) (nI x)) (Am.ev cA (DR N s.env) (nI y))=some e:=by
   rw[hx.ev,hy.ev];have hxk:=hx.ok;unfold eqB at he;split at he
   ·rename_i a b e1 e2; rw[e1,e2]; exact he
   ·rename_i l xs ys e1 e2;have n1:=hx.na _ e1;have n2:=hy.na _ e2;rw[e1,e2];simp only[gU,cU,eqA];rw[<-mW N n1,<-mW N n2];exact Yn N he
   ·rename_i z k e2;rw[e2];simp only[gU];cases e1:bq c s.env x<;>rw[e1] at he hxk<;>try (simp[iM] at he; done)
    ·simpa[iM,eqA,isNil,gU,cU] using he
    ·rename_i k' xs;cases xs with
     |nil=>simp[iM] at he
     |cons u r=>simpa[iM,eqA,isNil,gU,cU] using he
    ·simpa[iM,eqA,isNil,gU,cU] using he
    ·rename_i k' p off len;simp only[iM] at he;split at he
     ·cases he
     ·rename_i hlen;simp at he;subst he;simp only[gU];rcases vI h hxk with⟨m,_,e3⟩|⟨_,_,h0,_⟩
      ·rw[e3]; rfl
      ·exact absurd h0 hlen
   ·rename_i z e2;rw[e2];simp only[gU];cases e1:bq c s.env x<;>rw[e1] at he hxk<;>try (simp[iM] at he; done)
    ·simpa[iM,eqA,isNil,gU,cU] using he
    ·rename_i k' xs;cases xs with
     |nil=>simp[iM] at he
     |cons u r=>simpa[iM,eqA,isNil,gU,cU] using he
    ·simpa[iM,eqA,isNil,gU,cU] using he
    ·rename_i k' p off len;simp only[iM] at he;split at he
     ·cases he
     ·rename_i hlen;simp at he;subst he;simp only[gU];rcases vI h hxk with⟨m,_,e3⟩|⟨_,_,h0,_⟩
      ·rw[e3]; rfl
      ·exact absurd h0 hlen
   ·rename_i z e2;rw[e2];cases e1:bq c s.env x<;>rw[e1] at he<;>try (simp[iM] at he; done)
    all_goals simpa[iM,eqA,isNil,gU,cU] using he
   ·rename_i z e2;rw[e2];cases e1:bq c s.env x<;>rw[e1] at he<;>try (simp[iM] at he; done)
    all_goals simpa[iM,eqA,isNil,gU,cU] using he
   ·cases he
  simp only[ga,this,zd,cU]
 case un uo x=>
  obtain⟨o,ho⟩:=amT hk;have hx:=cM (c:=c) (cA:=cA) h uT ho;simp only[ga,hx.ev];cases e:bq c s.env x<;>rw[e] at hs<;>try (cases uo<;>simp[WM] at hs; done)
  ·have:(∃k n,v=.int k n)\/∃ b,v=.bool b:=by
    cases uo<;>simp[WM] at hs
    ·exact .inl ⟨_,_,hs.symm⟩
    ·exact .inl ⟨_,_,hs.symm⟩
   obtain⟨q1,q2,q3⟩:=S5 (N:=N) this (aB s) s.H.length;simp only[gU,cU,hs,q1];exact⟨trivial,q2,q3⟩
  ·have:(∃k n,v=.int k n)\/∃ b,v=.bool b:=by
    cases uo<;>simp[WM] at hs
    exact .inr ⟨_,hs.symm⟩
   obtain⟨q1,q2,q3⟩:=S5 (N:=N) this (aB s) s.H.length;simp only[gU,cU,hs,q1];exact⟨trivial,q2,q3⟩
 case SH k x=>
  obtain⟨o,ho⟩:=ajv hk;have hx:=cM (c:=c) (cA:=cA) h uT ho;split at hs
  case h_2=>cases hs
  rename_i k' n e;simp at hs;subst hs;simp only[ga,hx.int e];exact⟨rfl,trivial,trivial⟩
 case Sy fn a b=>
  obtain⟨⟨o1,h1⟩,o2,h2⟩:=ajl hk;obtain⟨a1,a2⟩:=wu (cA:=cA) h uT h1;obtain⟨b1,b2⟩:=wu (cA:=cA) h uT h2;split at hs
  ·cases hs
  rename_i ho;simp at hs ho;subst hs
  have sp:∀{xs ys:List AV},bS (xs++ys)=false->bS xs=false/\bS ys=false:=by
   intro xs
   induction xs with
   |nil=>intro ys h; exact⟨rfl,h⟩
   |cons z r ih=>
     intro ys h;cases z<;>simp[bS] at h ⊢<;>exact ih h
  obtain⟨hy,ho⟩:=ho;obtain⟨p1,p2⟩:=sp ho;refine⟨?_,⟨a2,b2,fun Mj=>by rw[hy] at Mj; cases Mj⟩,trivial⟩;simp only[ga,a1,b1,zd,cU,mW N p1,mW N p2,hy,Bool.false_eq_true,if_false]
 case Io k x lo hi=>
  obtain⟨⟨o,ho⟩,h1,h2⟩:=ajj hk;have hx:=cM (c:=c) (cA:=cA) h uT ho;have dy:=hx.ok;split at hs
  case h_2=>cases hs
  rename_i n hn;split at hs
  case h_2=>cases hs
  rename_i hh hhh;split at hs
  case h_2=>cases hs
  rename_i l hl;have g1:=abE h hx hn;have g2:=YJ h uT h2 hhh;have g3:=YJ h uT h1 hl
  have bb:∀{d m n:Nat} {x:Option E},DM c s.env d m x=some n->d<=m->n<=m:=by
   intro d m n x hb hd;cases x with
   |none=>simp[DM] at hb; omega
   |some x=>
     simp only[DM] at hb;unfold bnd at hb;split at hb
     ·split at hb
      ·simp at hb; omega
      ·cases hb
     ·cases hb
  have l1:=bb hhh (aJ _);have l2:=bb hl (Nat.zero_le _);simp only[ga,g1,g2,g3];rw[hx.ev];cases e:bq c s.env x<;>rw[e] at hs dy hn<;>try (simp at hs; done)
  ·rename_i k' xs;simp only at hs;split at hs
   case isFalse=>cases hs
   rename_i wR;simp at hs;subst hs;simp only[gU,cU];rw[if_pos wR];exact⟨rfl,trivial,trivial⟩
  ·rename_i k' b off len;simp only at hs;split at hs
   case isFalse=>cases hs
   rename_i wR;simp at hs;subst hs;simp only[gU,cU];rw[if_pos wR];exact⟨rfl,dy,trivial⟩
  ·rename_i k' xs;have:=hx.eo k' xs e;subst this;simp only at hs;split at hs
   case isFalse=>cases hs
   simp at hs;subst hs;exact⟨rfl,trivial,rfl⟩
  ·rename_i k' p off len;simp only at hs;split at hs
   case isFalse=>cases hs
   rename_i wR;subst wR;simp at hs;subst hs;simp only[xq,af] at hn;subst hn
   have hok2:cS (aB s) s.H.length (.dX k' p (off+l) (hh-l)):=by
    simp only[cS] at dy ⊢;obtain⟨xs,e1,e2⟩:=dy;exact⟨xs,e1,by omega⟩
   refine⟨?_,hok2,trivial⟩;simp only[gU];rcases vI h dy with⟨m,hm,e3⟩|⟨hm,e0,e1,e3⟩
   ·rw[e3];simp only[if_true,zd,cU,hm,cO]
   ·rw[e3];simp only[zd,cU,hm]
 case vL off x=>
  obtain⟨o,ho⟩:=ajt hk;have hx:=cM (c:=c) (cA:=cA) h uT ho;have dy:=hx.ok;simp only[ga,hx.ev];cases e:bq c s.env x<;>rw[e] at hs dy<;>try (simp at hs; done)
  ·simp at hs; subst hs; exact⟨rfl,trivial,trivial⟩
  ·simp at hs; subst hs; exact⟨rfl,dy,trivial⟩
  ·rename_i k p i o';simp at hs;subst hs;have hok2:cS (aB s) s.H.length (.fG k p i (o'+off)):=dy;refine⟨?_,hok2,trivial⟩;obtain⟨m,hm,e2⟩:=Ld h dy;simp only[gU,e2,zd,cU,hm,Nat.add_assoc]
 case Of n x hi=>
  cases hi with
  |some y=>simp at hs
  |none=>
  obtain⟨⟨o,ho⟩,_⟩:=acm hk;have hx:=cM (c:=c) (cA:=cA) h uT ho;have dy:=hx.ok;simp only[ga,hx.ev,dnO,Fy];simp only at hs;cases e:bq c s.env x<;>rw[e] at hs dy<;>try (simp at hs; done)
  rename_i cs;simp only at hs;split at hs
  case isFalse=>cases hs
  rename_i hc;simp at hs;subst hs;simp only[gU,cU];rw[if_pos ⟨hc.1,trivial,hc.2⟩];exact⟨rfl,trivial,trivial⟩
 case fld off ag x=>
  obtain⟨o,ho⟩:=ajs hk;have hx:=cM (c:=c) (cA:=cA) h uT ho;have dy:=hx.ok;simp only[ga,hx.ev];cases e:bq c s.env x<;>rw[e] at hs dy<;>try (simp at hs; done)
  rename_i cs;simp only at hs;obtain⟨r1,r2,r3,_⟩:=W8 N hs (EK (n:=off) dy);simp only[gU,cU,Jh,r1];exact⟨trivial,r2,r3⟩
 case ti k x i=>
  obtain⟨⟨o1,h1⟩,o2,h2⟩:=ajr hk;have hx:=cM (c:=c) (cA:=cA) h uT h1;have hi:=cM (c:=c) (cA:=cA) h uT h2;have dy:=hx.ok;simp only[ga,hx.ev];cases e:bq c s.env x<;>rw[e] at hs dy<;>try (simp at hs; done)
  ·rename_i k' xs;simp only at hs;split at hs
   case h_2=>cases hs
   rename_i j hj;obtain⟨ki,ni,e2,SE,_⟩:=Gq hj;split at hs
   case isFalse=>cases hs
   rename_i wR;split at hs
   case h_2=>cases hs
   rename_i u hu;simp at hs;subst hs;simp only[gU,cU,hi.int e2,SE,if_pos wR,hu];exact⟨rfl,trivial,trivial⟩
  ·rename_i k' b off len;simp only at hs;split at hs
   case h_2=>cases hs
   rename_i j hj;obtain⟨ki,ni,e2,SE,_⟩:=Gq hj;split at hs
   case isFalse=>cases hs
   rename_i wR;simp at hs;subst hs;simp only[gU,cU,hi.int e2,SE,if_pos wR];exact⟨rfl,dy,trivial⟩
  ·rename_i k' p off len;simp only at hs;split at hs
   case h_2=>cases hs
   rename_i j hj;obtain⟨ki,ni,e2,SE,bE⟩:=Gq hj;split at hs
   case isFalse=>cases hs
   rename_i wR;subst wR;simp at hs;subst hs;simp only[gU];rcases vI h dy with⟨m,hm,e3⟩|⟨_,_,h0,_⟩
   ·rw[e3];simp only[hi.int e2,SE,if_true,zd,cU,hm,cO,Nat.add_zero];refine⟨trivial,?_,trivial⟩;simp only[cS] at dy ⊢;obtain⟨xs,q1,q2⟩:=dy;exact⟨xs,q1,by omega⟩
   ·omega
 case wC n k x i=>
  obtain⟨⟨o1,h1⟩,o2,h2⟩:=ajq hk;have hx:=cM (c:=c) (cA:=cA) h uT h1;have hi:=cM (c:=c) (cA:=cA) h uT h2;have dy:=hx.ok;split at hs
  case h_2=>cases hs
  rename_i j hj;obtain⟨ki,ni,e2,SE,_⟩:=Gq hj;simp only[ga,hi.int e2,SE,hx.ev];cases e:bq c s.env x<;>rw[e] at hs dy<;>try (simp at hs; done)
  ·simp at hs; subst hs; exact⟨rfl,trivial,trivial⟩
  ·simp at hs; subst hs; exact⟨rfl,dy,trivial⟩
  ·rename_i k' p l off;simp at hs;subst hs;have hok2:cS (aB s) s.H.length (.fG k' p l (off+j*k)):=dy;refine⟨?_,hok2,trivial⟩;obtain⟨m,hm,e3⟩:=Ld h dy;simp only[gU,e3,zd,cU,hm,Nat.add_assoc]
 case ix n k ag x i=>
  obtain⟨⟨o1,h1⟩,o2,h2⟩:=amX hk;have hx:=cM (c:=c) (cA:=cA) h uT h1;have hi:=cM (c:=c) (cA:=cA) h uT h2;have dy:=hx.ok;split at hs
  case h_2=>cases hs
  rename_i j hj;obtain⟨ki,ni,e2,SE,_⟩:=Gq hj;simp only[ga,hi.int e2,SE,hx.ev];cases e:bq c s.env x<;>rw[e] at hs dy<;>try (simp at hs; done)
  rename_i cs;simp only at hs;obtain⟨r1,r2,r3,_⟩:=W8 N hs (EK (n:=j*k) dy);simp only[gU,cU,Jh,r1];exact⟨trivial,r2,r3⟩
 case ext i x=>
  obtain⟨o,ho⟩:=aju hk;have hx:=cM (c:=c) (cA:=cA) h uT ho;have dy:=hx.ok;simp only[ga,hx.ev];cases e:bq c s.env x<;>rw[e] at hs dy<;>try (simp at hs; done)
  rename_i vs;simp only at hs;split at hs
  case h_2=>cases hs
  rename_i u hu;split at hs
  ·cases hs
  rename_i iF;simp at hs iF;subst hs;simp only[gU,cU,oZ,hu,cG];refine⟨by rw[nF N iF],gO.1 dy i u hu,?_⟩;cases u<;>simp only[EO]<;>try (simp[bY] at iF; done)
  rename_i ds;intro j k xs hj;exfalso;simp only[bY] at iF;clear hu
  induction ds generalizing j with
  |nil=>simp at hj
  |cons y r ih=>
    cases j with
    |zero=>simp at hj; subst hj; simp[bS] at iF
    |succ j=>exact ih (by cases y<;>simp[bS] at iF<;>exact iF) j (by simpa using hj)
 case ixs tab i=>
  obtain⟨o,ho⟩:=ajp hk;have hi:=cM (c:=c) (cA:=cA) h uT ho;split at hs
  case h_2=>cases hs
  rename_i j hj;obtain⟨ki,ni,e2,SE,_⟩:=Gq hj;split at hs
  case h_2=>cases hs
  rename_i u hu;simp at hs;subst hs;simp only[ga,hi.int e2,SE,hu];exact⟨rfl,trivial,trivial⟩
 case len x=>
  obtain⟨o,ho⟩:=ajo hk;have hx:=cM (c:=c) (cA:=cA) h uT ho;split at hs
  case h_2=>cases hs
  rename_i n hn;simp at hs;subst hs;simp only[ga,abE h hx hn];exact⟨rfl,trivial,trivial⟩
 case min xs=>
  obtain⟨o,ho⟩:=ajm hk;obtain⟨a1,a2⟩:=wu (cA:=cA) h uT ho;obtain⟨m1,m2⟩:=aby N hs;obtain⟨q1,q2,q3⟩:=S5 (N:=N) (.inl m2) (aB s) s.H.length;simp only[ga,a1,m1,q1];exact⟨trivial,q2,q3⟩
 case max xs=>
  obtain⟨o,ho⟩:=ajn hk;obtain⟨a1,a2⟩:=wu (cA:=cA) h uT ho;obtain⟨m1,m2⟩:=aby N hs;obtain⟨q1,q2,q3⟩:=S5 (N:=N) (.inl m2) (aB s) s.H.length;simp only[ga,a1,m1,q1];exact⟨trivial,q2,q3⟩
end
end Go.Bm

/- A value in hand; operations that read and make. -/
namespace Go.Bm
open Go.Am
section
variable {P:Program} {X:Nat->Prop} {φ:dx} {w:World} {N N':Names} {s:St} {Ha:Heap} {t t':Nat->Value} {B:Nat->Nat} {base:Nat} {v:AV} {v':Value}
theorem Jg (fg:N'.β=N.β) {x:AV} (h:∀p∈aV x,N'.ν p=N.ν p):cU N' x=cU N x:=by
 have e:=adJ (N:=N) (N':=N') (m:=id) (g:=fun y=>y) fg (fun _ _ _ _=>⟨rfl,rfl⟩) x h;have:cW (fun y=>y) x=x:=vh (m:=id) (fun _ _ _ _=>⟨rfl,rfl⟩) x (fun _ _=>rfl)
 rwa [this] at e
theorem Oo (fg:N'.β=N.β) {r:Rt} {x:AV} (hr:∀k xs,x=.own k xs->N'.ν r=N.ν r) (h:∀p∈aV x,N'.ν p=N.ν p):jG N' r x=jG N r x:=by
 have e:=Ck (N:=N) (N':=N') (m:=id) (g:=fun y=>y) fg (fun _ _ _ _=>⟨rfl,rfl⟩) (r:=r) (r':=r) hr h;have:cW (fun y=>y) x=x:=vh (m:=id) (fun _ _ _ _=>⟨rfl,rfl⟩) x (fun _ _=>rfl)
 rwa [this] at e
theorem acK (fg:N'.β=N.β) {i:Nat} {x:AV} (h1:N'.ν (.s i)=N.ν (.s i)) (h2:∀j,N'.ν (.sc i j)=N.ν (.sc i j)) (h:∀p∈aV x,N'.ν p=N.ν p):lZ N' i x=lZ N i x:=by
 have e:=QO (N:=N) (N':=N') (m:=id) (g:=fun y=>y) fg (fun _ _ _ _=>⟨rfl,rfl⟩) (i:=i) (i':=i) h1 h2 h;have:cW (fun y=>y) x=x:=vh (m:=id) (fun _ _ _ _=>⟨rfl,rfl⟩) x (fun _ _=>rfl)
 rwa [this] at e
theorem ff.dX (h:ff X φ w N s Ha t) {r:Rt} {x:AV} (hx:at_ s r=some x):∀p∈aV x,(aB s p).isSome:=F3 x (h.EI hx)
theorem am8 {i:Nat} (hi:get s.env i=.any) {q:Rt} (hq:bP i q=false):at_ ⟨put s.env i v,s.H⟩ q=at_ s q:=by
 cases q with
 |s j=>simp only[bP,decide_eq_false_iff_not] at hq; simp[at_,bQ,hq]
 |sc j l=>simp only[bP,decide_eq_false_iff_not] at hq; simp[at_,bQ,hq]
 |c b j=>rfl
theorem ql {i:Nat} (hi:get s.env i=.any) {q:Rt} (hq:bP i q=false):aB ⟨put s.env i v,s.H⟩ q=aB s q:=iW (am8 hi hq)
theorem acD {i:Nat} (hi:get s.env i=.any) {q:Rt} (hq:bP i q=true):aB s q=none:=by
 have ho:bY (get s.env i)=false:=by rw[hi]; rfl
 obtain⟨h1,h2⟩:=eB ho;cases q with
 |s j=>simp only[bP,decide_eq_true_eq] at hq; subst hq; exact h1
 |sc j l=>simp only[bP,decide_eq_true_eq] at hq; subst hq; exact h2 l
 |c b j=>simp[bP] at hq
mutual
theorem j7 {o o':Rt->Option (Nat × List AV)} {nb Pu:Nat} (ho:∀p,(o p).isSome->o' p=o p) (hn:nb<=Pu):∀x,cS o nb x->cS o' Pu x
 |.dX k p off len,h=>by simp only[cS] at h ⊢; obtain⟨xs,e,h2⟩:=h; exact⟨xs,by rw[ho p (by rw[e]; rfl)]; exact e,h2⟩
 |.fG k p i off,h=>by simp only[cS] at h ⊢; obtain⟨xs,e,h2⟩:=h; exact⟨xs,by rw[ho p (by rw[e]; rfl)]; exact e,h2⟩
 |.ptr b off,h=>by simp only[cS] at h ⊢; omega
 |.agg cs,h=>by simp only[cS] at h ⊢; exact Ab ho hn cs h
 |.dR cs,h=>by simp only[cS] at h ⊢; exact Ab ho hn cs h
 |.func f a b,h=>by simp only[cS] at h ⊢; exact⟨Ab ho hn a h.1,Ab ho hn b h.2.1,h.2.2⟩
 |.any,_=>trivial
 |.undef,_=>trivial
 |.fY,_=>trivial
 |.gh,_=>trivial
 |.dC,_=>trivial
 |.int _ _,_=>trivial
 |.bool _,_=>trivial
 |.str _,_=>trivial
 |.list _ _,_=>trivial
 |.dG _,_=>trivial
 |.own _ _,_=>trivial
 |.sl _ b _ _,h=>by simp only[cS] at h ⊢; omega
theorem Ab {o o':Rt->Option (Nat × List AV)} {nb Pu:Nat} (ho:∀p,(o p).isSome->o' p=o p) (hn:nb<=Pu):∀cs,mw o nb cs->mw o' Pu cs
 |[],_=>trivial
 |x::r,h=>⟨j7 ho hn x h.1,Ab ho hn r h.2⟩
end
theorem ff.putG (h:ff X φ w N s Ha t) {i:Nat} (hi:get s.env i=.any) (fg:N'.β=N.β) (hN:∀p,bP i p=false->N'.ν p=N.ν p) (hv:cS (aB s) s.H.length v) (rv:bR (Rd X φ w) φ (lZ N' i v) v')
  (eZ:∀p k xs,bP i p=true->aB ⟨put s.env i v,s.H⟩ p=some (k,xs)->rF Ha (N'.ν p) k xs/\∀ n,N'.ν p=some n->(∀q,(aB s q).isSome->N.ν q≠some n)/\(∀b,(aH s.H b).isSome->N.β b≠n)/\∀ q,bP i q=true->(aB ⟨put s.env i v,s.H⟩ q).isSome->N'.ν q=some n->q=p) :
  ff X φ w N' ⟨put s.env i v,s.H⟩ Ha (fun j=>if j=i then v' else t j):=by
 have NP:∀{p},(aB s p).isSome->bP i p=false:=by
  intro p hp;cases e:bP i p with
  |false=>rfl
  |true=>rw[acD hi e] at hp; cases hp
 have mono:∀p,(aB s p).isSome->aB ⟨put s.env i v,s.H⟩ p=aB s p:=fun p hp=>ql hi (NP hp);refine⟨fun j=>?_,fun j=>?_,h.heap,fun p k xs e=>?_,fun b cs e=>?_,fun p q n e1 e2 e3 e4=>?_,fun b p e1 e2 e3=>?_,fun b d e1 e2 e3=>?_⟩
 ·simp only[bQ];by_cases hj:j=i
  ·subst hj; simp only[if_true]; exact rv
  ·simp only[if_neg hj];rw[acK fg (hN _ (by simp[bP,hj])) (fun l=>hN _ (by simp[bP,hj])) (fun p hp=>hN p (NP (h.dX (r:=.s j) rfl p hp)))];exact h.env j
 ·simp only[bQ];by_cases hj:j=i
  ·rw[if_pos hj]; exact j7 mono (aJ _) v hv
  ·rw[if_neg hj]; exact j7 mono (aJ _) _ (h.IL j)
 ·cases hp:bP i p with
  |true=>exact (eZ p k xs hp e).1
  |false=>rw[ql hi hp] at e; rw[hN p hp]; exact h.own p k xs e
 ·obtain⟨as,g1,g2,g3⟩:=h.box b cs e;refine⟨as,by rw[fg]; exact g1,g2,fun j c hc=>?_⟩;obtain⟨k1,a,k2,k3⟩:=g3 j c hc;refine⟨j7 mono (aJ _) c k1,a,k2,?_⟩;rw[Oo fg (fun _ _ _=>hN _ rfl) (fun p hp=>hN p (NP (h.dX (r:=.c b j) (by rw[AE (s:=s) e]; exact hc) p hp)))];exact k3
 ·cases hp:bP i p with
  |true=>
    obtain⟨⟨k,xs⟩,e⟩:=bf.1 e1;obtain⟨_,h2⟩:=eZ p k xs hp e;obtain⟨f1,f2,f3⟩:=h2 n e3;cases hq:bP i q with
    |true=>exact (f3 q hq e2 e4).symm
    |false=>rw[ql hi hq] at e2; rw[hN q hq] at e4; exact absurd e4 (f1 q e2)
  |false=>
    cases hq:bP i q with
    |true=>
      obtain⟨⟨k,xs⟩,e⟩:=bf.1 e2;obtain⟨_,h2⟩:=eZ q k xs hq e;obtain⟨f1,f2,f3⟩:=h2 n e4;rw[ql hi hp] at e1;rw[hN p hp] at e3;exact absurd e3 (f1 p e1)
    |false=>
      rw[ql hi hp] at e1;rw[ql hi hq] at e2;rw[hN p hp] at e3;rw[hN q hq] at e4;exact h.inj p q n e1 e2 e3 e4
 ·rw[fg] at e3;cases hp:bP i p with
  |true=>
    obtain⟨⟨k,xs⟩,e⟩:=bf.1 e2;obtain⟨_,h2⟩:=eZ p k xs hp e;exact (h2 _ e3).2.1 b e1 rfl
  |false=>rw[ql hi hp] at e2; rw[hN p hp] at e3; exact h.bx b p e1 e2 e3
 ·rw[fg] at e3; exact h.bi b d e1 e2 e3
theorem eF.quiet (h:ff X φ w N s Ha t) (hb:(∀b,b<base->N.β b=B b)/\base<=s.H.length) (hv:cS (aB s) s.H.length v) (he:EO v) (r:bR (Rd X φ w) φ (zd N v) v'):eF X φ w B base s v t v':=by
 refine⟨⟨N,Ha,h,hb⟩,hv,fun i hi=>?_⟩
 have NP:∀{p},(aB s p).isSome->bP i p=false:=by
  intro p hp;cases e:bP i p with
  |false=>rfl
  |true=>rw[acD hi e] at hp; cases hp
 obtain⟨N',fg,hN1,hN2⟩:∃N':Names,N'.β=N.β/\(∀p,bP i p=false->N'.ν p=N.ν p)/\∀ p,bP i p=true->N'.ν p=none:=⟨⟨N.β,fun p=>if bP i p then none else N.ν p⟩,rfl,fun p hp=>by simp[hp],fun p hp=>by simp[hp]⟩;have hvb:∀p∈aV v,N'.ν p=N.ν p:=fun p hp=>hN1 p (NP (F3 v hv p hp))
 have e1:lZ N' i v=zd N v:=by
  cases v<;>simp only[lZ,zd,jG]<;>try exact Jg fg hvb
  ·rename_i cs;congr 1;apply dW;intro j;rw[gC,qR];simp only[fT];cases hc:cs[j]? with
   |none=>rfl
   |some c=>
     simp only[cG];congr 1;have hcb:∀p∈aV c,N'.ν p=N.ν p:=fun p hp=>hvb p (by simp only[aV]; exact nq hc hp);cases c<;>simp only[jG,gU]<;>try exact Jg fg hcb
     simp only[sN,hN2 (.sc i j) (by simp[bP])]
  ·simp only[sN,hN2 (.s i) (by simp[bP])]
 refine⟨N',Ha,h.putG hi fg hN1 hv (by rw[e1]; exact r) (fun p k xs hp e=>?_),fun b bE=>by rw[fg]; exact hb.1 b bE,hb.2⟩;rw[hN2 p hp];refine⟨?_,fun n e=>by cases e⟩;have e':=cD.1 e;cases p with
 |s j=>
   simp only[bP,decide_eq_true_eq] at hp;subst hp;simp only[at_,bQ,if_true,af] at e';rw[e'] at he;exact he
 |sc j l=>
   simp only[bP,decide_eq_true_eq] at hp;subst hp;simp only[at_,bQ,if_true] at e';cases v<;>simp only[reduceCtorEq] at e'
   exact he l k xs e'
 |c b j=>simp[bP] at hp
theorem eF.fresh (h:ff X φ w N s Ha t) (hb:(∀b,b<base->N.β b=B b)/\base<=s.H.length) {k n:Nat} {xs:List AV} (ho:rF Ha (some n) k xs) (hf:∀q,(aB s q).isSome->N.ν q≠some n) (hx:∀b,(aH s.H b).isSome->N.β b≠n) (r:bR (Rd X φ w) φ (.sl k n 0 xs.length) v') :
  eF X φ w B base s (.own k xs) t v':=by
 refine⟨⟨N,Ha,h,hb⟩,trivial,fun i hi=>?_⟩
 obtain⟨N',fg,hN1,hN2⟩:∃N':Names,N'.β=N.β/\(∀p,bP i p=false->N'.ν p=N.ν p)/\N'.ν (.s i)=some n:=⟨⟨N.β,fun p=>if p=.s i then some n else N.ν p⟩,rfl,fun p hp=>by
  have:p≠.s i:=by rintro rfl; simp[bP] at hp
  simp[this],by simp⟩
 have only:∀p,bP i p=true->(aB ⟨Am.put s.env i (.own k xs),s.H⟩ p).isSome->p=.s i:=by
  intro p hp e;cases p with
  |s j=>simp only[bP,decide_eq_true_eq] at hp; rw[hp]
  |sc j l=>
    simp only[bP,decide_eq_true_eq] at hp;subst hp;unfold aB at e;simp[at_,bQ] at e
  |c b j=>simp[bP] at hp
 refine⟨N',Ha,h.putG hi fg hN1 trivial (by simp only[lZ,jG,sN,hN2]; exact r) (fun p k' ys hp e=>?_),fun b bE=>by rw[fg]; exact hb.1 b bE,hb.2⟩;have yU:=only p hp (by rw[e]; rfl);subst yU;have e':=cD.1 e;simp only[at_,bQ,if_true,af,AV.own.injEq] at e';obtain⟨rfl,rfl⟩:=e';rw[hN2];refine⟨ho,fun m hm=>?_⟩;cases hm;exact⟨hf,hx,fun q hq e _=>only q hq e⟩
theorem ff.oN {φ':dx} {w':World} {Ha':Heap} (h:ff X φ w N s Ha t) (a:ft φ w φ' w') (hh:cm X φ' w' Ha') (ho:∀p k xs,aB s p=some (k,xs)->rF Ha' (N.ν p) k xs) (hb:∀b,(aH s.H b).isSome->aH Ha' (N.β b)=aH Ha (N.β b)):ff X φ' w' N s Ha' t:=
 ⟨fun i=>a.rep (h.env i),h.IL,hh,ho,fun b cs e=>by
  obtain⟨as,g1,g2,g3⟩:=h.box b cs e;exact⟨as,by rw[hb b (by rw[e]; rfl)]; exact g1,g2,g3⟩,h.inj,h.bx,h.bi⟩
theorem rF.same {H H':Heap} {o:Option Nat} {k:Nat} {xs:List AV} (h:rF H o k xs) (hb:∀n,o=some n->aH H' n=aH H n):rF H' o k xs:=by
 cases o with
 |none=>exact h
 |some n=>
   obtain⟨cs,h1,h2⟩:=h;exact⟨cs,by rw[hb n rfl]; exact h1,h2⟩
theorem rF.lt {H:Heap} {n k:Nat} {xs:List AV} (h:rF H (some n) k xs):n<H.length:=by
 obtain⟨cs,h1,_⟩:=h;exact dU h1
theorem ff.gS (h:ff X φ w N s Ha t) {p:Rt} (hp:(aB s p).isSome) {n:Nat} (hn:N.ν p=some n):n<Ha.length:=by
 obtain⟨⟨k,xs⟩,e⟩:=bf.1 hp;have:=h.own p k xs e;rw[hn] at this;exact this.lt
theorem ff.uK (h:ff X φ w N s Ha t) {b:Nat} (hb:(aH s.H b).isSome):N.β b<Ha.length:=by
 obtain⟨cs,e⟩:=bf.1 hb;obtain⟨as,g1,_⟩:=h.box b cs e;exact dU g1
theorem ff.push {φ':dx} {w':World} {cs:List AV} (h:ff X φ w N s Ha t) (a:ft φ w φ' w') (hh:cm X φ' w' (Ha++[some cs])):ff X φ' w' N s (Ha++[some cs]) t:=by
 refine h.oN a hh (fun p k xs e=>?_) (fun b hb=>?_)
 ·refine (h.own p k xs e).same fun n hn=>?_;rw[fQ,if_neg];have:=h.gS (by rw[e]; rfl) hn;omega
 ·rw[fQ,if_neg];have:=h.uK hb;omega
theorem M4 (H:Heap) (cs:List AV):aH (H++[some cs]) H.length=some cs:=by rw[fQ,if_pos rfl]
end
end Go.Bm

/- Operations that make blocks and boxes. -/
namespace Go.Bm
open Go.Am
mutual
theorem A0 {N N':Names} {o:Rt->Option (Nat × List AV)} {nb:Nat} (fg:∀b,b<nb->N'.β b=N.β b) (lM:∀p,(o p).isSome->N'.ν p=N.ν p):∀x,cS o nb x->cU N' x=cU N x
 |.dX k p a l,h=>by simp only[cS] at h; obtain⟨xs,e,_⟩:=h; simp only[cU,lM p (by rw[e]; rfl)]
 |.fG k p a l,h=>by simp only[cS] at h; obtain⟨xs,e,_⟩:=h; simp only[cU,lM p (by rw[e]; rfl)]
 |.ptr b off,h=>by simp only[cS] at h; simp only[cU,fg b h]
 |.agg cs,h=>by simp only[cS] at h; simp only[cU,tM fg lM cs h]
 |.dR cs,h=>by simp only[cS] at h; simp only[cU,tM fg lM cs h]
 |.func f a b,h=>by simp only[cS] at h; simp only[cU,tM fg lM a h.1,tM fg lM b h.2.1]
 |.any,_=>rfl
 |.undef,_=>rfl
 |.fY,_=>rfl
 |.gh,_=>rfl
 |.dC,_=>rfl
 |.int _ _,_=>rfl
 |.bool _,_=>rfl
 |.str _,_=>rfl
 |.list _ _,_=>rfl
 |.dG _,_=>rfl
 |.own _ _,_=>rfl
 |.sl _ b _ _,h=>by simp only[cS] at h; simp only[cU,fg b h]
theorem tM {N N':Names} {o:Rt->Option (Nat × List AV)} {nb:Nat} (fg:∀b,b<nb->N'.β b=N.β b) (lM:∀p,(o p).isSome->N'.ν p=N.ν p):∀cs,mw o nb cs->mX N' cs=mX N cs
 |[],_=>rfl
 |x::r,h=>by simp only[mX,A0 fg lM x h.1,tM fg lM r h.2]
end
theorem wW {N N':Names} {o:Rt->Option (Nat × List AV)} {nb:Nat} (fg:∀b,b<nb->N'.β b=N.β b) (lM:∀p,(o p).isSome->N'.ν p=N.ν p) {r:Rt} {x:AV} (hr:∀k xs,x=.own k xs->N'.ν r=N.ν r) (h:cS o nb x):jG N' r x=jG N r x:=by
 cases x<;>simp only[jG]<;>first|exact A0 fg lM _ h|skip
 rename_i k xs;simp only[sN,hr k xs rfl]
theorem Cj {N N':Names} {o:Rt->Option (Nat × List AV)} {nb:Nat} (fg:∀b,b<nb->N'.β b=N.β b) (lM:∀p,(o p).isSome->N'.ν p=N.ν p) {i:Nat} {x:AV} (h1:N'.ν (.s i)=N.ν (.s i)) (h2:∀j,N'.ν (.sc i j)=N.ν (.sc i j)) (h:cS o nb x):lZ N' i x=lZ N i x:=by
 by_cases ha:∃cs,x=.agg cs
 ·obtain⟨cs,rfl⟩:=ha;simp only[lZ];congr 1;apply dW;intro j;rw[gC,gC];simp only[fT];cases hc:cs[j]? with
  |none=>rfl
  |some c=>
    simp only[cG];simp only[cS] at h;rw[wW fg lM (fun _ _ _=>h2 j) (gO.1 h j c hc)]
 ·have hn:kA x:=fun cs e=>ha ⟨cs,e⟩;have e1:lZ N' i x=jG N' (.s i) x:=by cases x<;>first|rfl|exact absurd rfl (hn _)
  have e2:lZ N i x=jG N (.s i) x:=by cases x<;>first|rfl|exact absurd rfl (hn _)
  rw[e1,e2];exact wW fg lM (fun _ _ _=>h1) h
mutual
theorem mj (N:Names):∀x,pl x=true->cU N x=x
 |.agg cs,h=>by simp only[pl] at h; simp only[cU,Jd N cs h]
 |.dR cs,h=>by simp only[pl] at h; simp only[cU,Jd N cs h]
 |.func f a b,h=>by simp only[pl,ae] at h; simp only[cU,Jd N a h.2.1,Jd N b h.2.2]
 |.any,_=>rfl
 |.undef,_=>rfl
 |.fY,_=>rfl
 |.gh,_=>rfl
 |.dC,_=>rfl
 |.int _ _,_=>rfl
 |.bool _,_=>rfl
 |.str _,_=>rfl
 |.list _ _,_=>rfl
 |.dG _,_=>rfl
 |.own _ _,h=>by simp[pl] at h
 |.dX _ _ _ _,h=>by simp[pl] at h
 |.fG _ _ _ _,h=>by simp[pl] at h
 |.ptr _ _,h=>by simp[pl] at h
 |.sl _ _ _ _,h=>by simp[pl] at h
theorem Jd (N:Names):∀cs,dc cs=true->mX N cs=cs
 |[],_=>rfl
 |x::r,h=>by simp only[dc,ae] at h; simp only[mX,mj N x h.1,Jd N r h.2]
end
theorem abG (N:Names) {c:AV} (h:fz (fa c)=true) (he:∀k xs,c=.own k xs->xs=[]):Le (fa c) (gU N c):=by
 cases c<;>simp only[fa] at h ⊢<;>first
  | (have := (my h).1
     simp only[gU];rw[mj N _ this];exact Le.refl _)
  |skip
 rename_i k xs;have:=he k xs rfl;subst this;exact Le.fa k
section
variable {P:Program} {X:Nat->Prop} {φ φ':dx} {w w':World} {N N':Names} {s s1:St} {Ha:Heap} {t:Nat->Value} {B:Nat->Nat} {base:Nat} {v:AV} {v':Value} {c:eS} {o:Oper} {a:Act}
theorem ff.Rn {zs as:List AV} (h:ff X φ w N s Ha t) (ad:ft φ w φ' w') (hh:cm X φ' w' (Ha++[some as])) (hz:mw (aB s) s.H.length zs) (he:SX zs) (has:as=iR N zs) :
  ∃ N',(∀b,b<s.H.length->N'.β b=N.β b)/\N'.β s.H.length=Ha.length/\ff X φ' w' N' ⟨s.env,s.H++[some zs]⟩ (Ha++[some as]) t:=by
 have h1:=h.push ad hh
 obtain⟨N',fg,hβ2,hN1,hN2⟩:∃N':Names,(∀b,b<s.H.length->N'.β b=N.β b)/\N'.β s.H.length=Ha.length/\(∀p,(∀j,p≠.c s.H.length j)->N'.ν p=N.ν p)/\∀ j,N'.ν (.c s.H.length j)=none:=
  ⟨⟨fun b=>if b=s.H.length then Ha.length else N.β b,fun p=>match p with
   |.c b j=>if b=s.H.length then none else N.ν (.c b j)
   |p=>N.ν p⟩,fun b hb=>by simp; omega,by simp,fun p hp=>by
     cases p with
     |s i=>rfl
     |sc i j=>rfl
     |c b j=>
       have:b≠s.H.length:=fun e=>hp j (by rw[e]);simp[this],fun j=>by simp⟩
 have atq:∀q,(∀j,q≠.c s.H.length j)->at_ ⟨s.env,s.H++[some zs]⟩ q=at_ s q:=by
  intro q hq;cases q with
  |s i=>rfl
  |sc i j=>rfl
  |c b j=>
    have:b≠s.H.length:=fun e=>hq j (by rw[e]);simp only[at_,fQ,if_neg this]
 have atn:∀j,at_ ⟨s.env,s.H++[some zs]⟩ (.c s.H.length j)=zs[j]?:=fun j=>by simp only[at_,fQ,if_true]
 have NP:∀{q},(aB s q).isSome->∀j,q≠.c s.H.length j:=by
  rintro q hq j rfl;unfold aB at hq
  have:aH s.H s.H.length=none:=by
   cases e:aH s.H s.H.length with
   |none=>rfl
   |some cs=>have:=dU e; omega
  simp[at_,this] at hq
 have mono:∀p,(aB s p).isSome->aB ⟨s.env,s.H++[some zs]⟩ p=aB s p:=fun p hp=>iW (atq p (NP hp));have lM:∀p,(aB s p).isSome->N'.ν p=N.ν p:=fun p hp=>hN1 p (NP hp);have hlen:s.H.length<=(s.H++[some zs]).length:=by simp
 have akB:∀{q k xs},aB ⟨s.env,s.H++[some zs]⟩ q=some (k,xs)->(aB s q=some (k,xs))\/((∃j,q=.c s.H.length j)/\xs=[]):=by
  intro q k xs e;by_cases hq:∃j,q=.c s.H.length j
  ·obtain⟨j,rfl⟩:=hq;have e':=cD.1 e;rw[atn] at e';exact .inr ⟨⟨j,rfl⟩,he j k xs e'⟩
  ·rw[iW (atq q fun j e=>hq ⟨j,e⟩)] at e;exact .inl e
 have Jk:∀{q n},(aB ⟨s.env,s.H++[some zs]⟩ q).isSome->N'.ν q=some n->(aB s q).isSome/\N.ν q=some n:=by
  intro q n hq hn;obtain⟨⟨k,xs⟩,e⟩:=bf.1 hq;rcases akB e with e1|⟨⟨j,rfl⟩,_⟩
  ·have:(aB s q).isSome:=by rw[e1]; rfl
   exact⟨this,by rw[<-lM q this]; exact hn⟩
  ·rw[hN2] at hn; cases hn
 have bold:∀{b},(aH (s.H++[some zs]) b).isSome->(b<s.H.length/\(aH s.H b).isSome)\/b=s.H.length:=by
  intro b hb;rw[fQ] at hb;by_cases e:b=s.H.length
  ·exact .inr e
  ·rw[if_neg e] at hb;obtain⟨cs,e2⟩:=bf.1 hb;exact .inl ⟨dU e2,hb⟩
 refine⟨N',fg,hβ2,⟨fun i=>?_,fun i=>j7 mono hlen _ (h1.IL i),hh,fun p k xs e=>?_,fun b cs e=>?_,fun p q n e1 e2 e3 e4=>?_,fun b p e1 e2 e3=>?_,fun b d e1 e2 e3=>?_⟩⟩
 ·rw[Cj fg lM (hN1 _ (fun j e=>by cases e)) (fun l=>hN1 _ (fun j e=>by cases e)) (h1.IL i)];exact h1.env i
 ·rcases akB e with e1|⟨⟨j,rfl⟩,rfl⟩
  ·rw[lM p (by rw[e1]; rfl)]; exact h1.own p k xs e1
  ·rw[hN2]; rfl
 ·by_cases hb:b=s.H.length
  ·subst hb;simp only[fQ,if_true,af] at e;subst e;refine⟨as,by rw[hβ2]; exact M4 _ _,by rw[has,jH],fun j x hx=>⟨j7 mono hlen x (gO.1 hz j x hx),gU N x,by rw[has,qR,hx]; rfl,?_⟩⟩;have hxk:=gO.1 hz j x hx;cases x<;>simp only[jG,gU]<;>try (rw[A0 fg lM _ hxk]; exact Le.refl _)
   simp only[sN,hN2];exact Le.refl _
  ·simp only[fQ,if_neg hb] at e;obtain⟨as',g1,g2,g3⟩:=h1.box b cs e;refine⟨as',by rw[fg b (dU e)]; exact g1,g2,fun j x hx=>?_⟩;obtain⟨k1,a',k2,k3⟩:=g3 j x hx;refine⟨j7 mono hlen x k1,a',k2,?_⟩;rw[wW fg lM (fun _ _ _=>hN1 _ (fun l e=>by cases e; exact hb rfl)) k1];exact k3
 ·obtain⟨p1,p2⟩:=Jk e1 e3;obtain⟨q1,q2⟩:=Jk e2 e4;exact h1.inj p q n p1 q1 p2 q2
 ·obtain⟨p1,p2⟩:=Jk e2 e3;rcases bold e1 with⟨b1,b2⟩|b1
  ·rw[fg b b1] at p2; exact h1.bx b p b2 p1 p2
  ·subst b1;rw[hβ2] at p2;have:=h.gS p1 p2;omega
 ·rcases bold e1 with⟨b1,b2⟩|b1<;>rcases bold e2 with⟨d1,d2⟩|d1
  ·rw[fg b b1,fg d d1] at e3; exact h1.bi b d b2 d2 e3
  ·subst d1; rw[fg b b1,hβ2] at e3; have:=h.uK b2; omega
  ·subst b1; rw[fg d d1,hβ2] at e3; have:=h.uK d2; omega
  ·rw[b1,d1]
def tm (a:Act):Nat->Value:=fun i=>a.tmps.getD i undef
def nB (P:Program) (X:Nat->Prop) (φ:dx) (w:World) (B:Nat->Nat) (base:Nat) (s1:St) (v:AV) (o:Oper) (a:Act):Prop:=
 ∀ (K:Act->World->Prop) (Q:Exit->Act->World->Prop),(∀v' w' φ',eF X φ' w' B base s1 v (tm a) v'->ft φ w φ' w'->K (a.put o.dst v') w')->o.wp P a w K Q
theorem nB.ghost (ad:ft φ w φ' w) (h:nB P X φ' w B base s1 v o a):nB P X φ w B base s1 v o a:=fun K Q hK=>h K Q fun v' w' rN hp k=>hK v' w' rN hp (ad.trans k)
theorem nB.of {va:AV} {Ha':Heap} (h:Ok P X φ w o a va Ha') (hp:∀v' w' φ',bR (Rd X φ' w') φ' va v'->cm X φ' w' Ha'->ft φ w φ' w'->eF X φ' w' B base s1 v (tm a) v'):nB P X φ w B base s1 v o a:=
 fun K Q hK=>h K Q fun v' w' φ' r hh ad=>hK v' w' φ' (hp v' w' φ' r hh ad) ad
def iu (c:eS):Am.eS:=⟨fun _=>none,c.gl,fun _=>none⟩
theorem am2 (hm:P.follows .mixedOrders=true) (c:eS):Am.Wl P (iu c):=⟨hm,fun f m q h=>by cases h⟩
def noC:Nat->List AV->Heap->Option (AV × Heap):=fun _ _ _=>none
theorem ag8 (c:eS):Am.GN P (iu c) noC:=fun f m q h=>by cases h
end
end Go.Bm

/- Operations that read, and that make blocks and boxes: from the model. -/
namespace Go.Bm
open Go.Am
theorem me:∀(a b:List AV),aC (a++b)=aC a++aC b
 |[],b=>rfl
 |x::r,b=>by simp[aC,me r b]
theorem VG (k:Nat):∀(n:Nat) (ys:List AV),n*k<=ys.length->aC (Iw k n ys)=ys.take (n*k)
 |0,ys,_=>by simp[Iw,aC]
 |n+1,ys,h=>by
   have h':n*k+k<=ys.length:=by rw[cO] at h; omega
   simp only[Iw,aC,wH];rw[VG k n (ys.drop k) (by rw[eV]; omega),cO,Nat.one_mul,Nat.add_comm,List.take_add]
theorem VF (e:AV):∀n,aC (bh n e)=rep e.cells n
 |0=>rfl
 |n+1=>by simp[List.replicate_succ,aC,rep,VF e n]
theorem wY (f:AV->AV) (zs:List AV):∀n,rep (zs.map f) n=(rep zs n).map f
 |0=>rfl
 |n+1=>by simp[rep,wY f zs n]
theorem QW (zs:List AV):∀n,(rep zs n).length=n*zs.length
 |0=>by simp[rep]
 |n+1=>by simp[rep,QW zs n,cO]; omega
theorem A8 {zs:List AV} {x:AV}:∀{n:Nat},x∈rep zs n->x∈zs
 |0,h=>by simp[rep] at h
 |n+1,h=>by
   simp only[rep,aI] at h;rcases h with h|h
   ·exact h
   ·exact A8 h
theorem qH:∀{cs:List AV},FG cs=true->∀x∈cs,fz x=true
 |[],_,x,hx=>by simp at hx
 |y::r,h,x,hx=>by
   simp only[FG,ae] at h;rcases aO.1 hx with e|e
   ·subst e; exact h.1
   ·exact qH h.2 x e
theorem IP {o:Rt->Option (Nat × List AV)} {nb:Nat}:∀{cs:List AV},mw o nb cs->∀x∈cs,cS o nb x
 |[],_,x,hx=>by simp at hx
 |y::r,h,x,hx=>by
   rcases aO.1 hx with e|e
   ·subst e; exact h.1
   ·exact IP h.2 x e
theorem Dc {o:Rt->Option (Nat × List AV)} {nb:Nat}:∀{cs:List AV},(∀x∈cs,cS o nb x)->mw o nb cs
 |[],_=>trivial
 |y::r,h=>⟨h y (by simp),Dc fun x hx=>h x (by simp[hx])⟩
theorem Qq:∀{vs:List Value} {xs:List AV},uE vs xs=true->xs.length=vs.length
 |[],[],_=>rfl
 |[],_::_,h=>by simp[uE] at h
 |_::_,[],h=>by simp[uE] at h
 |v::r,x::s,h=>by simp only[uE,ae] at h; simp[Qq h.2]
theorem ajR:∀{zs:List AV},qd (xH zs)=true->bF (xH zs)=true->∀z∈zs,fz (fa z)=true
 |[],_,_,z,hz=>by simp at hz
 |x::r,h1,h2,z,hz=>by
   simp only[xH,qd,bF,ae] at h1 h2;rcases aO.1 hz with e|e
   ·subst e;rcases dn_c (E8 h1.1) with⟨k,rfl,e⟩|⟨hc,e⟩
    ·rfl
    ·rw[e] at h1 h2;have h1':=h1.1;have N7:=h2.1;cases z<;>first|rfl|(simp[Dv] at h1'; done)|(simp[AV.leaf] at N7; done)
   ·exact ajR h1.2 h2.2 z e
theorem aea {R:Addr->Value->Prop} {φ:dx} {x:AV} {v:Value} (h:bR R φ x v):φ=[]->pl x=true:=by
 have all:∀{cs:List AV} {vs:Array Value},cs.length=vs.size->(∀(i:Nat) (c:AV) (v:Value),cs[i]?=some c->vs[i]?=some v->pl c=true)->dc cs=true:=by
  intro cs
  induction cs with
  |nil=>intro vs _ _; rfl
  |cons x r ih=>
    intro vs hl h;simp only[dc,ae];obtain⟨u,hu⟩:=cc (l:=vs) (i:=0) (by simp at hl; omega);refine⟨h 0 x u rfl hu,ih (vs:=vs.extract 1 vs.size) (by simp at hl ⊢; omega) fun i c v hc hv=>?_⟩;refine h (i+1) c v (by simpa using hc) ?_;rw[Array.getElem?_extract] at hv;split at hv
    ·rwa [Nat.add_comm] at hv
    ·cases hv
 induction h with
 |agg φ cs vs hl h ih=>intro e; simp only[pl]; exact all hl fun i c v h1 h2=>ih i c v h1 h2 e
 |dR φ cs vs hl h ih=>intro e; simp only[pl]; exact all hl fun i c v h1 h2=>ih i c v h1 h2 e
 |Dg φ b a hb ho=>intro e; subst e; simp at hb
 |func φ f as va bs vb hy Dz Dy ha hb iha ihb=>intro e; simp only[pl,ae,Bool.not_eq_true']; exact⟨hy,all Dz fun i c v h1 h2=>iha i c v h1 h2 e,all Dy fun i c v h1 h2=>ihb i c v h1 h2 e⟩
 |ptr φ b off a hb h=>intro e; subst e; simp at hb
 |sl φ k b off len a cap hb hc h=>intro e; subst e; simp at hb
 |_=>intro _; rfl
mutual
theorem wv {o:Rt->Option (Nat × List AV)} {nb:Nat}:∀x,pl x=true->cS o nb x
 |.agg cs,h=>by simp only[pl] at h; exact Lr cs h
 |.dR cs,h=>by simp only[pl] at h; exact Lr cs h
 |.func f a b,h=>by simp only[pl,ae] at h; exact⟨Lr a h.2.1,Lr b h.2.2,fun hy=>by rw[hy] at h; exact absurd h.1 (by simp)⟩
 |.any,_=>trivial
 |.undef,_=>trivial
 |.fY,_=>trivial
 |.gh,_=>trivial
 |.dC,_=>trivial
 |.int _ _,_=>trivial
 |.bool _,_=>trivial
 |.str _,_=>trivial
 |.list _ _,_=>trivial
 |.dG _,_=>trivial
 |.own _ _,h=>by simp[pl] at h
 |.dX _ _ _ _,h=>by simp[pl] at h
 |.fG _ _ _ _,h=>by simp[pl] at h
 |.ptr _ _,h=>by simp[pl] at h
 |.sl _ _ _ _,h=>by simp[pl] at h
theorem Lr {o:Rt->Option (Nat × List AV)} {nb:Nat}:∀cs,dc cs=true->mw o nb cs
 |[],_=>trivial
 |x::r,h=>by simp only[dc,ae] at h; exact⟨wv x h.1,Lr r h.2⟩
end
theorem DC:∀{ds:List AV},bS ds=false->∀(j k:Nat) (xs:List AV),ds[j]?≠some (.own k xs)
 |[],_,j,k,xs,e=>by simp at e
 |y::r,h,j,k,xs,e=>by
   cases j with
   |zero=>simp at e; subst e; simp[bS] at h
   |succ j=>exact DC (ds:=r) (by cases y<;>simp[bS] at h<;>exact h) j k xs (by simpa using e)
theorem oK {x:AV} (h:bY x=false):EO x:=by
 cases x<;>simp only[EO]<;>try (simp[bY] at h; done)
 exact fun j k xs e=>absurd e (DC h j k xs)
theorem aeg {ag:Option Nat} {xs ys:List AV} {x:AV} (h:FO ag xs=some x) (hl:xs.length<=ys.length) (hle:∀(i:Nat) (a b:AV),xs[i]?=some a->ys[i]?=some b->Le a b):∃y,FO ag ys=some y/\Le x y:=by
 unfold FO at h ⊢;cases ag with
 |some k=>
   simp only at h ⊢;split at h
   case isFalse=>cases h
   rename_i hk;simp at h;subst h;rw[if_pos (by omega)];refine⟨_,rfl,Le.agg (by simp; omega) fun i a b ha hb=>?_⟩;rw[bT] at ha hb;split at ha
   ·rename_i hi;rw[if_pos hi] at hb;exact hle i a b ha hb
   ·cases ha
 |none=>
   simp only at h ⊢;cases xs with
   |nil=>cases h
   |cons a r=>
     simp at h;subst h;cases ys with
     |nil=>simp at hl
     |cons b r'=>exact⟨b,rfl,hle 0 a b rfl rfl⟩
section
variable {P:Program} {X:Nat->Prop} {φ φ':dx} {w w':World} {N N':Names} {s s1:St} {Ha Ha':Heap} {t:Nat->Value} {B:Nat->Nat} {base:Nat} {v va:AV} {v':Value} {c:eS} {o:Oper} {a:Act} {kd:Kd}
theorem VN {t:TypeId} {k:Nat} {zs:List AV} (h1:jA P t k=true) (h2:jb P t zs=true):zs.length=k/\qd zs=true/\bF zs=true:=by
 obtain⟨e,i,z,hu,hi,wS,hk0,hby,Vr,Wq⟩:=jK h1;unfold jb at h2;rw[hu] at h2;simp only at h2;refine⟨?_,(vP h2).1,(vP h2).2⟩;unfold rO at h2;rw[hi] at h2;simp only[Vr,ae] at h2;have:=Qq h2.1;rw[this];simpa using Wq
theorem nu (hm:P.follows .mixedOrders=true) (h:ff X φ w N s Ha (tm a)) (hg:Am.eI (iu c) X φ w) (hk:di P o.op kd=true) {fl:Fp} (hs:ga (iu c) noC (DR N s.env) Ha kd=some (va,Ha',fl)):Ok P X φ w o a va Ha':=
 anC (am2 hm c) (ag8 c) (fun i=>by rw[pN]; exact h.env i) hg h.heap hk hs
theorem abg (hm:P.follows .mixedOrders=true) (h:SB X φ w B base s (tm a)) (hg:Am.eI (iu c) X φ w) (hk:di P o.op (nj kd)=true) (hs:Xm c s.env kd=some v):nB P X φ w B base s v o a:=by
 obtain⟨N,Ha,h,hb⟩:=h;obtain⟨h1,h2,h3⟩:=alI (cA:=iu c) (call:=noC) h rfl hk hs;refine nB.of (nu hm h hg hk h1) fun v' w' φ' r hh ad=>?_;exact eF.quiet (h.oN ad hh h.own (fun _ _=>rfl)) hb h2 h3 r
theorem Xn (hm:P.follows .mixedOrders=true) (h:SB X φ w B base s (tm a)) (hg:Am.eI (iu c) X φ w) {zs:List AV} (hk:di P o.op (nj (.new zs))=true):nB P X φ w B base ⟨s.env,s.H++[some zs]⟩ (.ptr s.H.length 0) o a:=by
 obtain⟨N,Ha,h,hb,hl⟩:=h;obtain⟨t,ht⟩:=ajk hk;obtain⟨e1,e2⟩:=Ft N (vP ht).1;refine nB.of (nu hm h hg hk (by simp only[nj,ga]; rfl)) fun v' w' φ' r hh ad=>?_;obtain⟨N',n1,n2,h'⟩:=h.Rn ad hh (EG (vP ht).1) e2 e1;refine eF.quiet h' ⟨fun b bE=>by rw[n1 b (by omega)]; exact hb b bE,by simp; omega⟩ (by simp[cS]) trivial ?_;simp only[zd,cU,n2];exact r
theorem aim (hm:P.follows .mixedOrders=true) (h:SB X φ w B base s (tm a)) (hg:Am.eI (iu c) X φ w) {x:E} (hk:di P o.op (nj (.box x))=true) (Bo:bF (bq c s.env x).cells=true):nB P X φ w B base ⟨s.env,s.H++[some (bq c s.env x).cells]⟩ (.ptr s.H.length 0) o a:=by
 obtain⟨N,Ha,h,hb,hl⟩:=h;obtain⟨o',ho⟩:=ajx hk;have hx:=cM (c:=c) (cA:=iu c) h rfl ho;have hc:=MU N hx.na;refine nB.of (nu hm h hg hk (by simp only[nj,ga,hx.ev,hc,xO h Bo (zZ hx.ok),if_true]; rfl)) fun v' w' φ' r hh ad=>?_;obtain⟨N',n1,n2,h'⟩:=h.Rn ad hh (zZ hx.ok) hx.SX rfl;refine eF.quiet h' ⟨fun b bE=>by rw[n1 b (by omega)]; exact hb b bE,by simp; omega⟩ (by simp[cS]) trivial ?_;simp only[zd,cU,n2];exact r
theorem Fh (h:ff X φ w N s Ha t) (hb:(∀b,b<base->N.β b=B b)/\base<=s.H.length) (ad:ft φ w φ' w') {cs:List AV} (hh:cm X φ' w' (Ha++[some cs])) {k:Nat} {xs:List AV} (hlen:xs.length*k<=cs.length) (hk:∀x∈xs,x.cells.length=k)
  (hc:∀(i:Nat) (d:AV),(aC xs)[i]?=some d->fz d=true/\∃ e,cs[i]?=some e/\e.leaf=true/\Le d e) (r:bR (Rd X φ' w') φ' (.sl k Ha.length 0 xs.length) v'):eF X φ' w' B base s (.own k xs) t v':=by
 refine eF.fresh (h.push ad hh) hb (n:=Ha.length) ⟨cs,M4 _ _,hlen,hk,hc⟩ (fun q hq e=>?_) (fun b hb e=>?_) r
 ·have:=h.gS hq e; omega
 ·have:=h.uK hb; omega
theorem Xq (hm:P.follows .mixedOrders=true) (h:SB X φ w B base s (tm a)) (hg:Am.eI (iu c) X φ w) {k n:Nat} {zs cs:List AV} {ps:List (Nat × Nat × E)} (hk:di P o.op (nj (.dw k n zs ps))=true) (hf:tc c s.env (rep zs n) ps=some cs) (hz:FG (cs.map fa)=true) :
  nB P X φ w B base s (.own k (Iw k n (cs.map fa))) o a:=by
 obtain⟨N,Ha,h,hb⟩:=h;obtain⟨⟨t,ht1,ht2⟩,hq⟩:=YF hk;obtain⟨z1,z2,z3⟩:=VN ht1 ht2;obtain⟨e1,e2⟩:=Ft N z2;have Ml:rep (xH zs) n=iR N (rep zs n):=by rw[e1,vQ,vQ,wY]
 have Gr:zs.length=k:=by rw[<-z1,e1,jH]
 have hzok:mw (aB s) s.H.length (rep zs n):=Dc fun x hx=>IP (EG z2) x (A8 hx)
 have hzeo:SX (rep zs n):=fun j k' xs hj=>by
  obtain⟨i,hi⟩:=bG (A8 (bp hj));exact e2 i k' xs hi
 obtain⟨f1,f2,f3,f4⟩:=vp (cA:=iu c) h rfl hq hzok hzeo hf;have I0:cs.length=n*k:=by rw[f4,QW,Gr]
 have Bo:bF cs=true:=by
  have:∀{l:List AV},(∀x∈l,x.leaf=true)->bF l=true:=by
   intro l
   induction l with
   |nil=>intro _; rfl
   |cons y r ih=>intro h; simp only[bF,ae]; exact⟨h y (by simp),ih fun x hx=>h x (by simp[hx])⟩
  refine this fun x hx=>?_;have:=(my (qH hz (fa x) (tI hx))).2;cases x<;>first|exact this|rfl
 have anT:∀x∈cs,x.leaf=true:=fun x hx=>by
  have:=(my (qH hz (fa x) (tI hx))).2;cases x<;>first|exact this|rfl
 refine nB.of (nu hm h hg hk (by simp only[nj,ga,Ml,f1,xO h Bo f2,if_true]; rfl)) fun v' w' φ' r hh ad=>?_;obtain⟨g1,g2⟩:=Mr k n (cs.map fa) (by simp[I0]);refine Fh h hb ad hh (by rw[g1,jH,I0]; omega) (fun x hx=>?_) (fun i d hd=>?_) (by rw[g1]; exact r)
 ·obtain⟨i,hi⟩:=bG hx;obtain⟨q1,q2⟩:=g2 i x hi;rw[q1,bD,eV,aX,I0];have:(i+1)*k<=n*k:=bV k q2;rw[cO] at this;omega
 ·rw[VG k n _ (by simp[I0]),<-I0,show (cs.map fa).take cs.length=cs.map fa from List.take_of_length_le (by simp),cu] at hd;cases hc:cs[i]? with
  |none=>rw[hc] at hd; cases hd
  |some x=>
    rw[hc] at hd;simp at hd;subst hd;have It:=qH hz (fa x) (tI (bp hc));exact⟨It,gU N x,by rw[qR,hc]; rfl,Ru h (anT x (bp hc)) (IP f2 x (bp hc)),abG N It (fun k xs e=>f3 i k xs (by rw[hc,e]))⟩
theorem aih (hm:P.follows .mixedOrders=true) (h:SB X φ w B base s (tm a)) (hg:Am.eI (iu c) X φ w) {k:Nat} {zs:List AV} {x y:E} {k1 k2:IntKind} {l cp:Int} (hk:di P o.op (nj (.Rr k zs x y))=true) (hx:bq c s.env x=.int k1 l) (hy:bq c s.env y=.int k2 cp) (hc:0<=l/\l<=cp/\cp<=(ks:Int)) :
  nB P X φ w B base s (.own k (bh l.toNat (el (zs.map fa)))) o a:=by
 obtain⟨N,Ha,h,hb⟩:=h;obtain⟨⟨t,ht1,ht2⟩,⟨o1,h1⟩,o2,h2⟩:=ack hk;obtain⟨z1,z2,z3⟩:=VN ht1 ht2;obtain⟨e1,e2⟩:=Ft N z2;have Gr:zs.length=k:=by rw[<-z1,e1,jH]
 have NT:=(cM (c:=c) (cA:=iu c) h rfl h1).int hx;have Mj:=(cM (c:=c) (cA:=iu c) h rfl h2).int hy;refine nB.of (nu hm h hg hk (by simp only[nj,ga,NT,Mj,if_pos hc]; rfl)) fun v' w' φ' r hh ad=>?_;refine Fh h hb ad hh (by rw[cY,QW,z1]; omega) (fun u hu=>?_) (fun i d hd=>?_) (by rw[cY]; exact r)
 ·rw[List.eq_of_mem_replicate hu,wH,aX,Gr]
 ·rw[VF,wH,wY,cu] at hd;cases hc':(rep zs l.toNat)[i]? with
  |none=>rw[hc'] at hd; cases hd
  |some z=>
    rw[hc'] at hd;simp at hd;subst hd;have hmem:=A8 (bp hc');obtain⟨j,hj⟩:=bG hmem;have heo:∀k xs,z=.own k xs->xs=[]:=fun k xs e=>e2 j k xs (by rw[hj,e]);have It:fz (fa z)=true:=ajR z2 z3 z hmem
    have Bo:(gU N z).leaf=true:=by
     have X1:gU N z∈xH zs:=by rw[e1,vQ]; exact tI hmem
     have:∀{l:List AV},bF l=true->∀x∈l,x.leaf=true:=by
      intro l
      induction l with
      |nil=>intro _ x hx; simp at hx
      |cons y r ih=>
        intro q x hx;simp only[bF,ae] at q;rcases aO.1 hx with e|e
        ·subst e; exact q.1
        ·exact ih q.2 x e
     exact this z3 _ X1
    exact⟨It,gU N z,by rw[e1]; rw[vQ,wY,cu,hc']; rfl,Bo,abG N It heo⟩
theorem ajD {zs z:List AV} (h:boxZ zs=some z):xH zs=[.dC]/\∃ k,z=[.own k []]:=by
 unfold boxZ at h;split at h
 case h_2=>cases h
 rename_i k;split at h
 case isFalse=>cases h
 simp at h;exact⟨rfl,_,h.symm⟩
theorem aif (hm:P.follows .mixedOrders=true) (h:SB X φ w B base s (tm a)) (hg:Am.eI (iu c) X φ w) {k:Nat} {zs z:List AV} {x y:E} {k1 k2:IntKind} {l cp:Int} (hk:di P o.op (nj (.Rr k zs x y))=true) (hz:boxZ zs=some z) (hx:bq c s.env x=.int k1 l) (hy:bq c s.env y=.int k2 cp) (hc:0<=l/\l<=cp/\cp<=(ks:Int)) :
  nB P X φ w B base ⟨s.env,s.H++[some (rep z l.toNat)]⟩ (.sl k s.H.length 0 l.toNat) o a:=by
 obtain⟨N,Ha,h,hb,hl⟩:=h;obtain⟨_,⟨o1,h1⟩,o2,h2⟩:=ack hk;obtain⟨e1,k',rfl⟩:=ajD hz;have NT:=(cM (c:=c) (cA:=iu c) h rfl h1).int hx;have Mj:=(cM (c:=c) (cA:=iu c) h rfl h2).int hy;refine nB.of (nu hm h hg hk (by simp only[nj,ga,NT,Mj,if_pos hc]; rfl)) fun v' w' φ' r hh ad=>?_
 obtain⟨N',n1,n2,h'⟩:=h.Rn (zs:=rep [.own k' []] l.toNat) ad hh (Dc fun u hu=>by
  have:=A8 hu;simp at this;subst this;exact trivial) (fun j kk xs hj=>by
  have:=A8 (bp hj);simp at this;exact this.2) (by rw[e1,vQ,<-wY]; rfl)
 refine eF.quiet h' ⟨fun b bE=>by rw[n1 b (by omega)]; exact hb b bE,by simp; omega⟩ (by simp[cS]) trivial ?_;simp only[zd,cU,n2];exact r
theorem akA (h:ff X φ w N s Ha (tm a)) (hg:Am.eI (iu c) X φ w) {ag:Option Nat} {x:E} {ps:List Rt} {o':Operand} (ho:dj o' (nI x)=true) (hs:Da s ag (bq c s.env x)=some (v,ps)) :
  ∃ va fl,ga (iu c) noC (DR N s.env) Ha (nj (.ld ag x))=some (va,Ha,fl)/\Le (zd N v) va/\cS (aB s) s.H.length v/\EO v:=by
 have hx:=cM (c:=c) (cA:=iu c) h rfl ho;have dy:=hx.ok
 have fin:∀{va:AV} {fl:Fp},ga (iu c) noC (DR N s.env) Ha (nj (.ld ag x))=some (va,Ha,fl)->Le (zd N v) va->cS (aB s) s.H.length v->EO v->∃va fl,ga (iu c) noC (DR N s.env) Ha (nj (.ld ag x))=some (va,Ha,fl)/\Le (zd N v) va/\cS (aB s) s.H.length v/\EO v:=
  fun e hle h2 h3=>⟨_,_,e,hle,h2,h3⟩
 have rdn:∀{cs:List AV},QY ag cs=some v->FO ag cs=some v/\bY v=false:=by
  intro cs hu;unfold QY at hu;split at hu
  case h_2=>cases hu
  rename_i u' hr;split at hu
  ·cases hu
  rename_i iF;simp at hu iF;subst hu;exact⟨hr,iF⟩
 have plrd:∀{cs:List AV},FO ag cs=some v->(∀x∈cs,pl x=true)->pl v=true:=by
  intro cs hr hp;unfold FO at hr;cases ag with
  |some k=>
    simp only at hr;split at hr
    case isFalse=>cases hr
    simp at hr;subst hr;simp only[pl]
    have:∀{l:List AV},(∀x∈l,pl x=true)->dc l=true:=by
     intro l
     induction l with
     |nil=>intro _; rfl
     |cons y r ih=>intro h; simp only[dc,ae]; exact⟨h y (by simp),ih fun x hx=>h x (by simp[hx])⟩
    exact this fun x hx=>hp x (du hx)
  |none=>
    simp only at hr;cases cs with
    |nil=>cases hr
    |cons y r=>simp at hr; subst hr; exact hp y (by simp)
 unfold Da at hs;cases e:bq c s.env x<;>rw[e] at hs dy<;>try (simp at hs; done)
 ·rename_i cs;simp only at hs;split at hs
  case h_2=>cases hs
  rename_i u hu;simp at hs;obtain⟨rfl,rfl⟩:=hs;obtain⟨hr,iF⟩:=rdn hu;have r:=cj (c:=iu c) (env:=DR N s.env) (a:=a) (fun i=>by rw[pN]; exact h.env i) hg ho;rw[hx.ev,e] at r;simp only[gU,cU] at r
  have oS:∀y∈cs,pl y=true:=by
   intro y hy;obtain⟨j,hj⟩:=bG hy;generalize a.eval o'=z at r;cases r with
   |dG _ _ _ u hu h=>exact aea (h j y hj) rfl
  have hv:=plrd hr oS;refine fin (va:=u) (by simp only[nj,ga,hx.ev,e,gU,cU,hr]; rfl) ?_ (wv _ hv) (oK iF);rw[nF N iF,mj N _ hv];exact Le.refl _
 ·rename_i b off;simp only at hs;split at hs
  case h_2=>cases hs
  rename_i cs dQ;split at hs
  case h_2=>cases hs
  rename_i u hu;simp at hs;obtain⟨rfl,rfl⟩:=hs;obtain⟨hr,iF⟩:=rdn hu;obtain⟨as,g1,g2,g3⟩:=h.box b cs dQ
  have hokL:mw (aB s) s.H.length (fj (.c b) 0 cs):=by
   refine gO.2 fun j d hd=>?_;rw[Gh] at hd;cases hc:cs[j]? with
   |none=>rw[hc] at hd; cases hd
   |some d0=>
     rw[hc] at hd;simp only[cG,af,fT] at hd;subst hd;split
     ·rename_i k xs;simp only[cS];exact⟨xs,cD.2 (by rw[AE dQ]; exact hc),by omega⟩
     ·exact (g3 j _ hc).1
  obtain⟨r1,r2,r3,_⟩:=W8 N hu (EK (n:=off) hokL);rw[<-Jh,Jf] at r1
  obtain⟨va,q1,q2⟩:=aeg (ys:=as.drop off) r1 (by simp[gQ]; omega) (fun i x y hx hy=>by
   rw[bk,gC] at hx;rw[bk] at hy;simp only[fT] at hx;cases hc:cs[off+i]? with
   |none=>rw[hc] at hx; cases hx
   |some d=>
     rw[hc] at hx;simp at hx;subst hx;obtain⟨_,a',a1,a2⟩:=g3 _ d hc;rw[a1] at hy;cases hy;exact a2)
  exact fin (va:=va) (by simp only[nj,ga,hx.ev,e,gU,cU,g1,q1]; rfl) q2 r2 r3
 ·rename_i k p i off;simp only at hs;split at hs
  case h_2=>cases hs
  rename_i k' xs hp;split at hs
  case isFalse=>cases hs
  rename_i wR;subst wR;split at hs
  case h_2=>cases hs
  rename_i el' hel;split at hs
  case h_2=>cases hs
  rename_i u hu;simp at hs;obtain⟨rfl,rfl⟩:=hs;obtain⟨hr,iF⟩:=rdn hu;obtain⟨n,hn,e2⟩:=Ld h dy;have eZ:=h.own p k' xs hp;rw[hn] at eZ;obtain⟨cs,c1,c2,c3,c4⟩:=eZ;have ja:∀(j:Nat) (d:AV),el'.cells[j]?=some d->fz d=true/\∃ a,cs[i*k'+j]?=some a/\Le d a:=fun j d hd=>let ⟨f1,a,f2,_,f3⟩:=c4 _ d (Fi c3 hel hd); ⟨f1,a,f2,f3⟩
  have oS:∀y∈el'.cells.drop off,pl y=true:=by
   intro y hy;obtain⟨j,hj⟩:=bG (dv hy);exact (my (ja j y hj).1).1
  have hv:=plrd hr oS;have aoc:el'.cells.length=k':=c3 el' (bp hel);have hi:(i+1)*k'<=xs.length*k':=bV k' (az hel);rw[cO] at hi
  obtain⟨va,q1,q2⟩:=aeg (ys:=cs.drop (i*k'+off)) hr (by simp; omega) (fun j x y hx hy=>by
   rw[bk] at hx hy;obtain⟨_,a',a1,a2⟩:=ja _ x hx;rw[show i*k'+(off+j)=i*k'+off+j by omega] at a1;rw[a1] at hy;cases hy;exact a2)
  refine fin (va:=va) (by simp only[nj,ga,hx.ev,e,gU,e2,c1,q1]; rfl) ?_ (wv _ hv) (oK iF);rw[nF N iF,mj N _ hv];exact q2
theorem alZ (hm:P.follows .mixedOrders=true) (h:SB X φ w B base s (tm a)) (hg:Am.eI (iu c) X φ w) {ag:Option Nat} {x:E} {ps:List Rt} (hk:di P o.op (nj (.ld ag x))=true) (hs:Da s ag (bq c s.env x)=some (v,ps)):nB P X φ w B base s v o a:=by
 obtain⟨N,Ha,h,hb⟩:=h;obtain⟨o',ho⟩:=amW hk;obtain⟨va,fl,e,hle,h2,h3⟩:=akA h hg ho hs;refine nB.of (nu hm h hg hk e) fun v' w' φ' r hh ad=>?_;exact eF.quiet (h.oN ad hh h.own (fun _ _=>rfl)) hb h2 h3 (hle _ _ _ r)
end
end Go.Bm
