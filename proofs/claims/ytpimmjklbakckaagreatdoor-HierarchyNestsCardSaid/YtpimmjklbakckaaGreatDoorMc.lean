/- The machine by value: what a state stands for. -/
import Derived.Test.YtpimmjklbakckaaGreatDoorBmA
/- How a state by value stands for a state of the older machine. -/
set_option linter.unusedSimpArgs false
open Bool renaming and_eq_true → ae, or_eq_false_iff → eC
open List renaming ext_getElem? → dy, getElem?_append_left → az, getElem?_append_right → aN, getElem?_drop → aW, getElem?_eq_none → dW, getElem?_map → cJ, getElem?_of_mem → bz, getElem?_set → aX, getElem?_set_ne → fX, getElem?_take → bE, length_drop → dT, length_map → cN, length_replicate → cu, length_take → bj, mem_append → aD, mem_cons → aO, mem_map_of_mem → q5, mem_of_getElem? → bf, mem_of_mem_drop → cT, mem_of_mem_take → cS, mem_singleton → cE, replicate → aT
open List.cons renaming injEq → O3
open Nat renaming add_mul → ct, le_refl → aI, mul_le_mul_right → bN, zero_add → fg, zero_mul → s8
open Ne renaming symm → tQ
open Option renaming isSome_iff_exists → aR, map_some → cj
open Option.some renaming inj → bK, injEq → af
open Prod.mk renaming injEq → aB
namespace Go.Bm
open Go.Am

structure Names where
 β:Nat->Nat
 ν:Rt->Option Nat

mutual
def cC (N:Names):AV->AV
 |.dz k p off len=>match N.ν p with
   |some n=>.sl k n (off*k) len
   |none=>.dp
 |.eV k p i off=>match N.ν p with
   |some n=>.ptr n (i*k+off)
   |none=>.any
 |.ptr b off=>.ptr (N.β b) off
 |.agg cs=>.agg (kj N cs)
 |.dF cs=>.dF (kj N cs)
 |.func f a b=>.func f (kj N a) (kj N b)
 |.own _ _=>.any
 |.sl k b off len=>.sl k (N.β b) off len
 |.any=>.any|.undef=>.undef|.fo=>.fo|.fv=>.fv|.dp=>.dp
 |.int k n=>.int k n|.bool b=>.bool b|.str s=>.str s
 |.list k xs=>.list k xs|.dh cs=>.dh cs
def kj (N:Names):List AV->List AV
 |[]=>[]
 |x::r=>cC N x::kj N r
end
def rA (N:Names) (p:Rt) (k len:Nat):AV:=
 match N.ν p with
 |some n=>.sl k n 0 len
 |none=>.dp
def iJ (N:Names) (p:Rt):AV->AV
 |.own k xs=>rA N p k xs.length
 |v=>cC N v
def PF (N:Names) (f:Nat->Rt):Nat->List AV->List AV
 |_,[]=>[]
 |j,x::r=>iJ N (f j) x::PF N f (j+1) r
def jY (N:Names) (i:Nat):AV->AV
 |.agg cs=>.agg (PF N (.sc i) 0 cs)
 |v=>iJ N (.s i) v
def Al (N:Names):Env->Env
 |[]=>[]
 |(i,v)::r=>(i,jY N i v)::Al N r

def Le (x y:AV):Prop:=∀R φ v,bF R φ y v->bF R φ x v
theorem Le.refl (x:AV):Le x x:=fun _ _ _ h=>h
theorem Le.trans {x y z:AV} (h:Le x y) (k:Le y z):Le x z:=fun R φ v r=>h R φ v (k R φ v r)
theorem Le.any (y:AV):Le .any y:=fun _ _ _ _=>.any _ _
theorem Le.agg {xs ys:List AV} (hl:xs.length=ys.length) (h:∀(i:Nat) (x y:AV),xs[i]?=some x->ys[i]?=some y->Le x y):Le (.agg xs) (.agg ys):=by
 intro R φ v r;cases r with
 |agg _ _ vs HG h2=>
   refine .agg _ _ _ (hl.trans HG) fun i c u hc hu=>?_;obtain⟨y,hy⟩:=aZ (l:=ys) (i:=i) (by have:=ak hc; omega);exact h i c y hc hy _ _ _ (h2 i y u hy hu)
theorem Le.gq (k:Nat):Le (.list k []) .dp:=by
 intro R φ v r;cases r with
 |dp=>exact .j7 _ _

mutual
def cB (o:Rt->Option (Nat × List AV)) (nb:Nat):AV->Prop
 |.dz k p off len=>∃xs,o p=some (k,xs)/\off+len<=xs.length
 |.eV k p i _=>∃xs,o p=some (k,xs)/\i<xs.length
 |.ptr b _=>b<nb
 |.agg cs=>jZ o nb cs
 |.dF cs=>jZ o nb cs
 |.func f a b=>jZ o nb a/\jZ o nb b/\(An f=true->a=[]/\∃ c,b=[.ptr c 0])
 |.sl _ b _ _=>b<nb
 |_=>True
def jZ (o:Rt->Option (Nat × List AV)) (nb:Nat):List AV->Prop
 |[]=>True
 |x::r=>cB o nb x/\jZ o nb r
end
theorem fO {o:Rt->Option (Nat × List AV)} {nb:Nat}:∀{cs:List AV},jZ o nb cs ↔ ∀(i:Nat) (c:AV),cs[i]?=some c->cB o nb c
 |[]=>by simp[jZ]
 |x::r=>by
   simp only[jZ,fO (cs:=r)];constructor
   ·rintro⟨h1,h2⟩ i c hc;cases i with
    |zero=>simp at hc; exact hc▸h1
    |succ i=>exact h2 i c (by simpa using hc)
   ·intro h;exact⟨h 0 x rfl,fun i c hc=>h (i+1) c (by simpa using hc)⟩

def qV (H:Heap) (o:Option Nat) (k:Nat) (xs:List AV):Prop:=
 match o with
 |none=>xs=[]
 |some n=>∃cs,aJ H n=some cs/\xs.length*k<=cs.length/\(∀x∈xs,x.cells.length=k)/\∀ (i:Nat) (c:AV),(aA xs)[i]?=some c->fz c=true/\∃ a,cs[i]?=some a/\a.leaf=true/\Le c a

structure er (X:Nat->Prop) (φ:cZ) (w:World) (N:Names) (s:St) (Ha:Heap) (t:Nat->Value):Prop where
 env:∀i,bF (Rd X φ w) φ (jY N i (get s.env i)) (t i)
 Ea:∀i,cB (au s) s.H.length (get s.env i)
 heap:bV X φ w Ha
 own:∀p k xs,au s p=some (k,xs)->qV Ha (N.ν p) k xs
 box:∀b cs,aJ s.H b=some cs->∃as,aJ Ha (N.β b)=some as/\as.length=cs.length/\∀ (j:Nat) (c:AV),cs[j]?=some c->cB (au s) s.H.length c/\∃ a,as[j]?=some a/\Le (iJ N (.c b j) c) a
 inj:∀p q n,(au s p).isSome->(au s q).isSome->N.ν p=some n->N.ν q=some n->p=q
 bx:∀b p,(aJ s.H b).isSome->(au s p).isSome->N.ν p≠some (N.β b)
 bi:∀b c,(aJ s.H b).isSome->(aJ s.H c).isSome->N.β b=N.β c->b=c

/-! Lists and places -/
theorem lT (N:Names):∀(cs:List AV) (i:Nat),(kj N cs)[i]?=(cs[i]?).map (cC N)
 |[],i=>by simp[kj]
 |x::r,i=>by cases i<;>simp[kj,lT N r]
theorem dB (N:Names):∀cs:List AV,(kj N cs).length=cs.length
 |[]=>rfl
 |x::r=>by simp[kj,dB N r]
theorem fE (N:Names) (f:Nat->Rt):∀(cs:List AV) (j i:Nat),(PF N f j cs)[i]?=(cs[i]?).map (iJ N (f (j+i)))
 |[],j,i=>by simp[PF]
 |x::r,j,i=>by
   cases i with
   |zero=>simp[PF]
   |succ i=>simp only[PF,List.getElem?_cons_succ,fE N f r]; rw[show j+1+i=j+(i+1) by omega]
theorem fR (N:Names) (f:Nat->Rt):∀(cs:List AV) (j:Nat),(PF N f j cs).length=cs.length
 |[],j=>rfl
 |x::r,j=>by simp[PF,fR N f r]
theorem dY (g:AV->AV):∀(cs:List AV) (i:Nat),(cO g cs)[i]?=(cs[i]?).map (cD g)
 |[],i=>by simp[cO]
 |x::r,i=>by cases i<;>simp[cO,dY g r]
theorem cv (g:AV->AV):∀cs:List AV,(cO g cs).length=cs.length
 |[]=>rfl
 |x::r=>by simp[cO,cv g r]
theorem mE (N:Names):∀(e:Env) (i:Nat),get (Al N e) i=jY N i (get e i)
 |[],i=>rfl
 |(j,u)::r,i=>by
   simp only[Al,Am.get];split
   ·rename_i h; rw[h]
   ·exact mE N r i
theorem df (g:AV->AV):∀(e:Env) (i:Nat),get (jS g e) i=cD g (get e i)
 |[],i=>rfl
 |(j,u)::r,i=>by
   simp only[jS,Am.get];split
   ·rfl
   ·exact df g r i
theorem Gg (g:AV->AV):∀(H:Heap) (b:Nat),(fJ g H)[b]?=(H[b]?).map (Option.map (cO g))
 |[],b=>by simp[fJ]
 |none::r,b=>by cases b<;>simp[fJ,Gg g r]
 |some cs::r,b=>by cases b<;>simp[fJ,Gg g r]
theorem fj (g:AV->AV):∀H:Heap,(fJ g H).length=H.length
 |[]=>rfl
 |none::r=>by simp[fJ,fj g r]
 |some cs::r=>by simp[fJ,fj g r]
theorem fe (g:AV->AV) (H:Heap) (b:Nat):aJ (fJ g H) b=(aJ H b).map (cO g):=by
 unfold aJ;rw[Gg];cases H[b]? with
 |none=>rfl
 |some o=>cases o<;>rfl
theorem blk_iff {H:Heap} {b:Nat} {cs:List AV}:aJ H b=some cs ↔ H[b]?=some (some cs):=by
 constructor
 ·exact rS
 ·intro h; unfold aJ; rw[h]
theorem dx {H:Heap} {b:Nat} {cs:List AV} (h:aJ H b=some cs):b<H.length:=ak (rS h)
theorem di (H:Heap) (b c:Nat) (x:List AV):aJ (H.set b (some x)) c=if c=b/\b<H.length then some x else aJ H c:=by
 unfold aJ;rw[aX];by_cases h:b=c
 ·subst h;by_cases hl:b<H.length
  ·simp[hl]
  ·simp[hl,dW (Nat.le_of_not_lt hl)]
 ·simp[h,tQ h]
theorem fH (H:Heap) (x:List AV) (c:Nat):aJ (H++[some x]) c=if c=H.length then some x else aJ H c:=by
 unfold aJ;by_cases h:c<H.length
 ·rw[az h,if_neg (by omega)]
 ·rw[aN (by omega)];by_cases h2:c=H.length
  ·subst h2; simp
  ·rw[if_neg h2,dW (l:=H) (by omega),dW (by simp; omega)]

def jd (x:AV):Prop:=∀cs,x≠.agg cs
def NOwn (x:AV):Prop:=∀k xs,x≠.own k xs
def jO (g:AV->AV):Prop:=∀k p o l,(jd (g (.dz k p o l))/\NOwn (g (.dz k p o l)))/\(jd (g (.eV k p o l))/\NOwn (g (.eV k p o l)))
theorem wQ {g:AV->AV} (hg:jO g) (x:AV) (k:Nat) (xs:List AV):cD g x=.own k xs ↔ x=.own k xs:=by
 cases x<;>simp[cD]
 ·exact (hg _ _ _ _).1.2 _ _
 ·exact (hg _ _ _ _).2.2 _ _
theorem Na {g:AV->AV} (hg:jO g) (x:AV) (cs:List AV):cD g x=.agg cs ↔ ∃ds,x=.agg ds/\cO g ds=cs:=by
 cases x<;>simp[cD]
 ·exact (hg _ _ _ _).1.1 _
 ·exact (hg _ _ _ _).2.1 _
theorem lx {g:AV->AV} (hg:jO g) {x:AV} (h:jd x):jd (cD g x):=by
 intro cs e;obtain⟨ds,rfl,_⟩:=(Na hg x cs).1 e;exact h _ rfl
theorem iS {g:AV->AV} (hg:jO g) (s:St) (p:Rt):at_ (cm g s) p=(at_ s p).map (cD g):=by
 cases p with
 |s i=>simp[at_,cm,df]
 |sc i j=>
   simp only[at_,cm,df];generalize get s.env i=x;split
   ·rename_i cs h;obtain⟨ds,rfl,rfl⟩:=(Na hg x cs).1 h;simp[dY]
   ·rename_i h;split
    ·rename_i ds;exact absurd rfl (h (cO g ds))
    ·rfl
 |c b j=>
   simp only[at_,cm,fe];cases aJ s.H b with
   |none=>rfl
   |some cs=>simp[dY]
theorem bY {s:St} {p:Rt} {k:Nat} {xs:List AV}:au s p=some (k,xs) ↔ at_ s p=some (.own k xs):=by
 unfold au;split
 ·rename_i k' xs' h;rw[h];simp
 ·rename_i h;constructor
  ·intro h'; cases h'
  ·intro h'; exact absurd h' (h k xs)
theorem gO {g:AV->AV} (hg:jO g) (s:St) (p:Rt):au (cm g s) p=au s p:=by
 cases h:au s p with
 |none=>
   cases h2:au (cm g s) p with
   |none=>rfl
   |some y=>
     obtain⟨k,xs⟩:=y;rw[bY,iS hg] at h2;cases hx:at_ s p with
     |none=>rw[hx] at h2; cases h2
     |some x=>
       rw[hx] at h2;simp only[cj,af] at h2;rw[wQ hg] at h2;subst h2;rw[bY.2 hx] at h;cases h
 |some y=>
   obtain⟨k,xs⟩:=y;rw[bY] at h ⊢;rw[iS hg,h];rfl

structure Shape (s s':St):Prop where
 agg:∀i cs,get s.env i=.agg cs->∃ds,get s'.env i=.agg ds/\ds.length=cs.length
 Ql:∀i,jd (get s.env i)->jd (get s'.env i)
 len:s'.H.length=s.H.length
 box:∀b cs,aJ s.H b=some cs->∃ds,aJ s'.H b=some ds/\ds.length=cs.length
 DR:∀b,aJ s.H b=none->aJ s'.H b=none
theorem Shape.refl (s:St):Shape s s:=⟨fun _ cs h=>⟨cs,h,rfl⟩,fun _ h=>h,rfl,fun _ cs h=>⟨cs,h,rfl⟩,fun _ h=>h⟩
theorem Shape.trans {s s' s'':St} (h:Shape s s') (k:Shape s' s''):Shape s s'':=
 ⟨fun i cs hc=>let ⟨ds,h1,h2⟩:=h.agg i cs hc; let ⟨es,h3,h4⟩:=k.agg i ds h1; ⟨es,h3,h4.trans h2⟩,fun i hi=>k.Ql i (h.Ql i hi),k.len.trans h.len,
  fun b cs hc=>let ⟨ds,h1,h2⟩:=h.box b cs hc; let ⟨es,h3,h4⟩:=k.box b ds h1; ⟨es,h3,h4.trans h2⟩,fun b hb=>k.DR b (h.DR b hb)⟩
theorem Shape.map {g:AV->AV} (hg:jO g) (s:St):Shape s (cm g s) where
 agg i cs h:=⟨cO g cs,by simp[cm,df,h,cD],cv g cs⟩
 Ql i h:=by simp only[cm,df]; exact lx hg h
 len:=fj g s.H
 box b cs h:=⟨cO g cs,by simp[cm,fe,h],cv g cs⟩
 DR b h:=by simp[cm,fe,h]
def Lf (s:St) (r:Rt):Prop:=∀i,r=.s i->jd (get s.env i)
def Fits (s:St) (p:Rt) (v:AV):Prop:=jd v/\∃ x,at_ s p=some x/\jd x
theorem Shape.set {s:St} {p:Rt} {v:AV} (h:Fits s p v):Shape s (setAt s p v):=by
 obtain⟨hv,x,hx,hn⟩:=h;cases p with
 |s i=>
   simp only[at_,af] at hx;refine⟨fun j cs hc=>?_,fun j hj=>?_,rfl,fun b cs hc=>⟨cs,hc,rfl⟩,fun b hb=>hb⟩
   ·simp only[setAt,bD];by_cases Ek:j=i
    ·subst Ek; rw[hx] at hc; exact absurd hc (hn cs)
    ·rw[if_neg Ek]; exact⟨cs,hc,rfl⟩
   ·simp only[setAt,bD];by_cases Ek:j=i
    ·rw[if_pos Ek]; exact hv
    ·rw[if_neg Ek]; exact hj
 |sc i l=>
   simp only[at_] at hx;cases hg:get s.env i<;>rw[hg] at hx<;>simp at hx
   rename_i ds;have hs:setAt s (.sc i l) v=⟨put s.env i (.agg (ds.set l v)),s.H⟩:=by simp[setAt,hg]
   rw[hs];refine⟨fun j cs hc=>?_,fun j hj=>?_,rfl,fun b cs hc=>⟨cs,hc,rfl⟩,fun b hb=>hb⟩
   ·simp only[bD];by_cases Ek:j=i
    ·subst Ek; rw[hg] at hc; cases hc; exact⟨_,if_pos rfl,by simp⟩
    ·rw[if_neg Ek]; exact⟨cs,hc,rfl⟩
   ·simp only[bD];by_cases Ek:j=i
    ·subst Ek; exact absurd hg (hj ds)
    ·rw[if_neg Ek]; exact hj
 |c b l=>
   simp only[at_] at hx;cases hg:aJ s.H b<;>rw[hg] at hx<;>simp at hx
   rename_i ds;have hs:setAt s (.c b l) v=⟨s.env,s.H.set b (some (ds.set l v))⟩:=by simp[setAt,hg]
   rw[hs];refine⟨fun j cs hc=>⟨cs,hc,rfl⟩,fun j hj=>hj,by simp,fun d cs hc=>?_,fun d hd=>?_⟩
   ·rw[di];by_cases hdb:d=b
    ·subst hdb; rw[hg] at hc; cases hc; exact⟨_,if_pos ⟨rfl,dx hg⟩,by simp⟩
    ·rw[if_neg (fun h=>hdb h.1)]; exact⟨cs,hc,rfl⟩
   ·rw[di];by_cases hdb:d=b
    ·subst hdb; rw[hg] at hd; cases hd
    ·rw[if_neg (fun h=>hdb h.1)]; exact hd
theorem CE {s:St} {p:Rt} {v:AV} (h:Fits s p v) {r:Rt} (hr:Lf s r):at_ (setAt s p v) r=if r=p then some v else at_ s r:=by
 obtain⟨hv,x,hx,hn⟩:=h;cases p with
 |s i=>
   simp only[at_,af] at hx;cases r with
   |s j=>simp only[at_,setAt,bD]; by_cases Ek:j=i<;>simp[Ek]
   |sc j l=>
     simp only[at_,setAt,bD];by_cases Ek:j=i
     ·subst Ek;simp only[if_true,hx,reduceCtorEq,if_false];cases v<;>first|(exact absurd rfl (hv _))|(cases x<;>first|(exact absurd rfl (hn _))|rfl)
     ·simp[Ek]
   |c b l=>simp[at_,setAt]
 |sc i l=>
   simp only[at_] at hx;cases hg:get s.env i<;>rw[hg] at hx<;>simp at hx
   rename_i ds;have hs:setAt s (.sc i l) v=⟨put s.env i (.agg (ds.set l v)),s.H⟩:=by simp[setAt,hg]
   rw[hs];cases r with
   |s j=>
     simp only[at_,bD,reduceCtorEq,if_false];by_cases Ek:j=i
     ·subst Ek;exact absurd hg (hr j rfl ds)
     ·simp[Ek]
   |sc j m=>
     simp only[at_,bD];by_cases Ek:j=i
     ·subst Ek;simp only[if_true,hg,Rt.sc.injEq,true_and];rw[aX];by_cases hlm:l=m
      ·subst hlm;have:=ak hx;simp[this]
      ·simp[hlm,tQ hlm]
     ·simp[Ek]
   |c b m=>simp[at_]
 |c b l=>
   simp only[at_] at hx;cases hg:aJ s.H b<;>rw[hg] at hx<;>simp at hx
   rename_i ds;have hs:setAt s (.c b l) v=⟨s.env,s.H.set b (some (ds.set l v))⟩:=by simp[setAt,hg]
   rw[hs];cases r with
   |s j=>simp[at_]
   |sc j m=>simp[at_]
   |c d m=>
     simp only[at_,di];by_cases hdb:d=b
     ·subst hdb;simp only[dx hg,and_self,if_true,hg,Rt.c.injEq,true_and];rw[aX];by_cases hlm:l=m
      ·subst hlm;have:=ak hx;simp[this]
      ·simp[hlm,tQ hlm]
     ·simp[hdb]

theorem Za {N N':Names} {i:Nat} {x y:AV} (h1:∀cs,x=.agg cs->∃ds,y=.agg ds/\ds.length=cs.length/\∀ (j:Nat) (c d:AV),cs[j]?=some c->ds[j]?=some d->Le (iJ N' (.sc i j) d) (iJ N (.sc i j) c))
  (h2:jd x->jd y/\Le (iJ N' (.s i) y) (iJ N (.s i) x)):Le (jY N' i y) (jY N i x):=by
 by_cases hx:∃cs,x=.agg cs
 ·obtain⟨cs,rfl⟩:=hx;obtain⟨ds,rfl,hl,h⟩:=h1 cs rfl;simp only[jY];refine Le.agg (by simp[fR,hl]) fun j u v hu hv=>?_;rw[fE] at hu hv;simp only[fg] at hu hv;cases hd:ds[j]? with
  |none=>rw[hd] at hu; cases hu
  |some d=>
    cases hc:cs[j]? with
    |none=>rw[hc] at hv; cases hv
    |some c=>
      rw[hd] at hu; rw[hc] at hv;simp at hu hv;subst hu hv;exact h j c d hc hd
 ·have hn:jd x:=fun cs e=>hx ⟨cs,e⟩;obtain⟨hy,hle⟩:=h2 hn;have e1:jY N' i y=iJ N' (.s i) y:=by cases y<;>first|rfl|exact absurd rfl (hy _)
  have e2:jY N i x=iJ N (.s i) x:=by cases x<;>first|rfl|exact absurd rfl (hn _)
  rw[e1,e2]; exact hle
theorem Hf {s:St} {i:Nat} {cs:List AV} (h:get s.env i=.agg cs) (j:Nat):at_ s (.sc i j)=cs[j]?:=by simp[at_,h]
theorem xh {s:St} {b:Nat} {cs:List AV} (h:aJ s.H b=some cs) (j:Nat):at_ s (.c b j)=cs[j]?:=by simp[at_,h]
theorem FV {s:St} {p:Rt} (h:(au s p).isSome):Lf s p:=by
 intro i hi cs hc;subst hi;cases ho:au s (.s i) with
 |none=>rw[ho] at h; cases h
 |some y=>
   obtain⟨k,xs⟩:=y;rw[bY] at ho;simp[at_,hc] at ho
theorem qV.take {H:Heap} {o:Option Nat} {k m:Nat} {xs:List AV} (h:qV H o k xs):qV H o k (xs.take m):=by
 cases o with
 |none=>simp only[qV] at h ⊢; rw[h]; simp
 |some n=>
   simp only[qV] at h ⊢;obtain⟨cs,h1,h2,h3,h4⟩:=h;refine⟨cs,h1,?_,fun x hx=>h3 x (cS hx),fun i c hc=>?_⟩
   ·rw[bj]; exact Nat.le_trans (bN k (Nat.min_le_right _ _)) h2
   ·refine h4 i c ?_
    have:∀(m:Nat) (l:List AV) (i:Nat) (c:AV),(aA (l.take m))[i]?=some c->(aA l)[i]?=some c:=by
     intro m
     induction m with
     |zero=>intro l i c h; simp[aA] at h
     |succ m ih=>
       intro l i c h;cases l with
       |nil=>simpa using h
       |cons y r=>
         simp only[List.take_succ_cons,aA] at h ⊢;rw[List.getElem?_append] at h ⊢;split
         ·rename_i bQ; rw[if_pos bQ] at h; exact h
         ·rename_i bQ; rw[if_neg bQ] at h; exact ih _ _ _ h
    exact this m xs i c hc
theorem F0 {o:Rt->Option (Nat × List AV)} {nb:Nat} {s:St} (h:∀r y,Lf s r->at_ s r=some y->cB o nb y) :
  (∀i,cB o nb (get s.env i))/\∀ b cs,aJ s.H b=some cs->∀(j:Nat) (c:AV),cs[j]?=some c->cB o nb c:=by
 refine⟨fun i=>?_,fun b cs hb j c hc=>h (.c b j) c (fun i e=>by cases e) (by rw[xh hb]; exact hc)⟩;by_cases hx:∃cs,get s.env i=.agg cs
 ·obtain⟨cs,dG⟩:=hx;rw[dG];simp only[cB];exact fO.2 fun j c hc=>h (.sc i j) c (fun i e=>by cases e) (by rw[Hf dG]; exact hc)
 ·exact h (.s i) _ (fun j e cs hc=>by cases e; exact hx ⟨cs,hc⟩) rfl
theorem er.AM {X:Nat->Prop} {φ:cZ} {w:World} {N:Names} {s:St} {Ha:Heap} {t:Nat->Value} (h:er X φ w N s Ha t) {r:Rt} {x:AV} (hx:at_ s r=some x):cB (au s) s.H.length x:=by
 cases r with
 |s i=>simp[at_] at hx; exact hx▸h.Ea i
 |sc i j=>
   simp only[at_] at hx;split at hx
   ·rename_i cs dG;have:=h.Ea i;rw[dG] at this;simp only[cB] at this;exact fO.1 this j x hx
   ·cases hx
 |c b j=>
   simp only[at_] at hx;split at hx
   ·rename_i cs dG;obtain⟨as,_,_,h3⟩:=h.box b cs dG;exact (h3 j x hx).1
   ·cases hx
theorem Shape.back {s s':St} (h:Shape s s') {r:Rt} {y:AV} (hl:Lf s' r) (hy:at_ s' r=some y):Lf s r/\∃ x,at_ s r=some x:=by
 cases r with
 |s i=>
   refine⟨fun j e cs hc=>?_,_,rfl⟩;cases e;obtain⟨ds,h1,_⟩:=h.agg i cs hc;exact hl i rfl ds h1
 |sc i j=>
   refine⟨(fun j e=>by cases e),?_⟩;simp only[at_] at hy ⊢;split at hy
   ·rename_i ds nT;by_cases hx:∃cs,get s.env i=.agg cs
    ·obtain⟨cs,dG⟩:=hx;obtain⟨es,h1,h2⟩:=h.agg i cs dG;rw[nT] at h1; cases h1;rw[dG];exact aZ (by have:=ak hy; omega)
    ·exact absurd nT (h.Ql i (fun cs e=>hx ⟨cs,e⟩) ds)
   ·cases hy
 |c b j=>
   refine⟨(fun j e=>by cases e),?_⟩;simp only[at_] at hy ⊢;split at hy
   ·rename_i ds nT;cases hb:aJ s.H b with
    |none=>rw[h.DR b hb] at nT; cases nT
    |some cs=>
      obtain⟨es,h1,h2⟩:=h.box b cs hb;rw[nT] at h1; cases h1;exact aZ (by have:=ak hy; omega)
   ·cases hy
theorem er.change {X:Nat->Prop} {φ:cZ} {w:World} {N N':Names} {s s':St} {Ha:Heap} {t:Nat->Value} (h:er X φ w N s Ha t) (ep:N'.β=N.β) (hs:Shape s s')
  (hp:∀r x y,Lf s r->at_ s r=some x->at_ s' r=some y->cB (au s') s'.H.length y/\Le (iJ N' r y) (iJ N r x))
  (src:Rt->Rt) (ho:∀p k xs,au s' p=some (k,xs)->∃ys,au s (src p)=some (k,ys)/\N'.ν p=N.ν (src p)/\∃ m,xs=ys.take m)
  (hi:∀p q,(au s' p).isSome->(au s' q).isSome->src p=src q->p=q):er X φ w N' s' Ha t:=by
 have so:∀{p},(au s' p).isSome->(au s (src p)).isSome/\N'.ν p=N.ν (src p):=by
  intro p hp;cases e:au s' p with
  |none=>rw[e] at hp; cases hp
  |some y=>obtain⟨ys,h1,h2,_⟩:=ho p y.1 y.2 e; exact⟨by rw[h1]; rfl,h2⟩
 have sb:∀{b},(aJ s'.H b).isSome->(aJ s.H b).isSome:=by
  intro b hb;cases e:aJ s.H b with
  |none=>rw[hs.DR b e] at hb; cases hb
  |some _=>rfl
 obtain⟨hk,hkc⟩:=F0 (o:=au s') (nb:=s'.H.length) (s:=s') fun r y hl hy=>by
  obtain⟨Wm,x,hx⟩:=hs.back hl hy;exact (hp r x y Wm hx hy).1
 refine⟨fun i=>?_,hk,h.heap,fun p k xs e=>?_,fun b cs' e=>?_,fun p q n h1 h2 e1 e2=>?_,fun b p h1 h2 e=>?_,fun b c h1 h2 e=>?_⟩
 ·refine Za (fun cs dG=>?_) (fun hn=>⟨hs.Ql i hn,?_⟩) _ _ _ (h.env i)
  ·obtain⟨ds,h1,h2⟩:=hs.agg i cs dG;refine⟨ds,h1,h2,fun j c d hc hd=>(hp (.sc i j) c d (fun i e=>by cases e) ?_ ?_).2⟩
   ·rw[Hf dG]; exact hc
   ·rw[Hf h1]; exact hd
  ·exact (hp (.s i) _ _ (fun j e=>by cases e; exact hn) rfl rfl).2
 ·obtain⟨ys,h1,h2,m,rfl⟩:=ho p k xs e;rw[h2];exact (h.own _ _ _ h1).take
 ·cases hb:aJ s.H b with
  |none=>rw[hs.DR b hb] at e; cases e
  |some cs=>
    obtain⟨ds,h1,h2⟩:=hs.box b cs hb;rw[e] at h1; cases h1;obtain⟨as,g1,g2,g3⟩:=h.box b cs hb;refine⟨as,by rw[ep]; exact g1,by omega,fun j c hc=>⟨hkc b cs' e j c hc,?_⟩⟩;obtain⟨d,hd⟩:=aZ (l:=cs) (i:=j) (by have:=ak hc; omega);obtain⟨_,a,g4,g5⟩:=g3 j d hd;exact⟨a,g4,(hp (.c b j) d c (fun i e=>by cases e) (by rw[xh hb]; exact hd) (by rw[xh e]; exact hc)).2.trans g5⟩
 ·obtain⟨k1,k2⟩:=so h1;obtain⟨k3,k4⟩:=so h2;exact hi p q h1 h2 (h.inj _ _ n k1 k3 (by rw[<-k2]; exact e1) (by rw[<-k4]; exact e2))
 ·obtain⟨k1,k2⟩:=so h2;rw[k2,ep] at e;exact h.bx b _ (sb h1) k1 e
 ·rw[ep] at e;exact h.bi b c (sb h1) (sb h2) e

mutual
theorem KC {N N':Names} {o o':Rt->Option (Nat × List AV)} {nb:Nat} {g:AV->AV} (ep:N'.β=N.β) (hg:jO g)
  (hl:∀k p a l,(cB o nb (.dz k p a l)->cB o' nb (g (.dz k p a l))/\Le (cC N' (g (.dz k p a l))) (cC N (.dz k p a l)))/\(cB o nb (.eV k p a l)->cB o' nb (g (.eV k p a l))/\Le (cC N' (g (.eV k p a l))) (cC N (.eV k p a l)))) :
  ∀ x,cB o nb x->cB o' nb (cD g x)/\Le (cC N' (cD g x)) (cC N x)
 |.dz k p a l,h=>by simp only[cD]; exact (hl k p a l).1 h
 |.eV k p a l,h=>by simp only[cD]; exact (hl k p a l).2 h
 |.agg cs,h=>by
   simp only[cB] at h;obtain⟨h1,h2,h3⟩:=wT ep hg hl cs h;simp only[cD,cB,cC];exact⟨h1,Le.agg h2 h3⟩
 |.dF cs,h=>by
   simp only[cB] at h;obtain⟨h1,h2,h3⟩:=wT ep hg hl cs h;simp only[cD,cB,cC];refine⟨h1,fun R φ v r=>?_⟩;cases r with
   |dF _ _ vs HG ZJ=>
     refine .dF _ _ _ (h2.trans HG) fun i c u hc hu=>?_;obtain⟨y,hy⟩:=aZ (l:=kj N cs) (i:=i) (by have:=ak hc; omega);exact h3 i c y hc hy _ _ _ (ZJ i y u hy hu)
 |.func f a b,h=>by
   simp only[cB] at h;obtain⟨h1,h2,h3⟩:=wT ep hg hl a h.1;obtain⟨k1,k2,k3⟩:=wT ep hg hl b h.2.1;simp only[cD,cB,cC];refine⟨⟨h1,k1,fun hy=>by obtain⟨rfl,c,rfl⟩:=h.2.2 hy; exact⟨rfl,c,by simp only[cO,cD]⟩⟩,fun R φ v r=>?_⟩;rcases r.w8 with⟨hy,va,vb,rfl,zT,zS,ha,hb⟩|⟨b0,r0,rfl,ea,eb,rfl,hb0,hr0⟩
   ·refine .func _ _ _ _ _ _ hy (h2.trans zT) (k2.trans zS) (fun i c u hc hu=>?_) (fun i c u hc hu=>?_)
    ·obtain⟨y,hy⟩:=aZ (l:=kj N a) (i:=i) (by have:=ak hc; omega);exact h3 i c y hc hy _ _ _ (ha i y u hy hu)
    ·obtain⟨y,hy⟩:=aZ (l:=kj N b) (i:=i) (by have:=ak hc; omega);exact k3 i c y hc hy _ _ _ (hb i y u hy hu)
   ·obtain⟨rfl,c,rfl⟩:=h.2.2 rfl;simp only[kj,cC,cO,cD,ep] at eb ⊢;simp only[O3,AV.ptr.injEq,and_true] at eb;subst eb;exact .zC _ _ _ hb0 hr0
 |.any,h=>⟨h,Le.refl _⟩
 |.undef,h=>⟨h,Le.refl _⟩
 |.fo,h=>⟨h,Le.refl _⟩
 |.fv,h=>⟨h,Le.refl _⟩
 |.dp,h=>⟨h,Le.refl _⟩
 |.int _ _,h=>⟨h,Le.refl _⟩
 |.bool _,h=>⟨h,Le.refl _⟩
 |.str _,h=>⟨h,Le.refl _⟩
 |.list _ _,h=>⟨h,Le.refl _⟩
 |.dh _,h=>⟨h,Le.refl _⟩
 |.own _ _,h=>⟨h,Le.refl _⟩
 |.sl k b off len,h=>by simp only[cD,cC,ep]; exact⟨h,Le.refl _⟩
 |.ptr b off,h=>by simp only[cD,cC,ep]; exact⟨h,Le.refl _⟩
theorem wT {N N':Names} {o o':Rt->Option (Nat × List AV)} {nb:Nat} {g:AV->AV} (ep:N'.β=N.β) (hg:jO g)
  (hl:∀k p a l,(cB o nb (.dz k p a l)->cB o' nb (g (.dz k p a l))/\Le (cC N' (g (.dz k p a l))) (cC N (.dz k p a l)))/\(cB o nb (.eV k p a l)->cB o' nb (g (.eV k p a l))/\Le (cC N' (g (.eV k p a l))) (cC N (.eV k p a l)))) :
  ∀ cs,jZ o nb cs->jZ o' nb (cO g cs)/\(kj N' (cO g cs)).length=(kj N cs).length/\∀ (i:Nat) (x y:AV),(kj N' (cO g cs))[i]?=some x->(kj N cs)[i]?=some y->Le x y
 |[],_=>⟨trivial,rfl,fun i x y h=>by simp[cO,kj] at h⟩
 |c::r,h=>by
   simp only[jZ] at h;obtain⟨h1,h2⟩:=KC ep hg hl c h.1;obtain⟨k1,k2,k3⟩:=wT ep hg hl r h.2;refine⟨⟨h1,k1⟩,by simp[cO,kj,k2],fun i x y hx hy=>?_⟩;cases i with
   |zero=>simp[cO,kj] at hx hy; subst hx hy; exact h2
   |succ i=>simp[cO,kj] at hx hy; exact k3 i x y hx hy
end
theorem lz {N N':Names} {o o':Rt->Option (Nat × List AV)} {nb:Nat} {g:AV->AV} (ep:N'.β=N.β) (hg:jO g)
  (hl:∀k p a l,(cB o nb (.dz k p a l)->cB o' nb (g (.dz k p a l))/\Le (cC N' (g (.dz k p a l))) (cC N (.dz k p a l)))/\(cB o nb (.eV k p a l)->cB o' nb (g (.eV k p a l))/\Le (cC N' (g (.eV k p a l))) (cC N (.eV k p a l))))
  {r:Rt} {x:AV} (hr:∀k xs,x=.own k xs->N'.ν r=N.ν r) (hx:cB o nb x):cB o' nb (cD g x)/\Le (iJ N' r (cD g x)) (iJ N r x):=by
 by_cases ho:∃k xs,x=.own k xs
 ·obtain⟨k,xs,rfl⟩:=ho;simp only[cD,iJ,rA,hr k xs rfl];exact⟨trivial,Le.refl _⟩
 ·obtain⟨h1,h2⟩:=KC ep hg hl x hx;refine⟨h1,?_⟩
  have e1:iJ N' r (cD g x)=cC N' (cD g x):=by
   have:∀k xs,cD g x≠.own k xs:=fun k xs e=>ho ⟨k,xs,(wQ hg x k xs).1 e⟩;generalize cD g x=y at this;cases y<;>first|rfl|exact absurd rfl (this _ _)
  have e2:iJ N r x=cC N x:=by cases x<;>first|rfl|exact absurd ⟨_,_,rfl⟩ ho
  rw[e1,e2];exact h2
theorem Lf.map {g:AV->AV} (hg:jO g) {s:St} {r:Rt} (h:Lf s r):Lf (cm g s) r:=by
 intro i hi;simp only[cm,df];exact lx hg (h i hi)
theorem Gn (p:Rt):jO (sw p):=by
 intro k q o l;simp only[sw];constructor<;>(split<;>exact⟨(fun cs e=>by cases e),(fun k xs e=>by cases e)⟩)
theorem afm (p q:Rt) (n:Nat):jO (rt p q n):=by
 intro k r o l;simp only[rt];constructor<;>(repeat' split)<;>exact⟨(fun cs e=>by cases e),(fun k xs e=>by cases e)⟩
theorem afo (p:Rt) (k:Nat) (xs:List AV):jO (fb p k xs):=by
 intro k r o l;simp only[fb];constructor<;>(repeat' split)<;>exact⟨(fun cs e=>by cases e),(fun k xs e=>by cases e)⟩
theorem afn (i d:Nat):jO (V7 i d):=by
 intro k r o l;simp only[V7];exact⟨⟨(fun cs e=>by cases e),(fun k xs e=>by cases e)⟩,⟨(fun cs e=>by cases e),(fun k xs e=>by cases e)⟩⟩
theorem T0 (i b off:Nat):jO (iN i b off):=by
 intro k r o l;simp only[iN];exact⟨⟨(fun cs e=>by cases e),(fun k xs e=>by cases e)⟩,⟨(fun cs e=>by cases e),(fun k xs e=>by cases e)⟩⟩
theorem xV:jO lV:=by
 intro k r o l;cases r<;>exact⟨⟨(fun cs e=>by cases e),(fun k xs e=>by cases e)⟩,⟨(fun cs e=>by cases e),(fun k xs e=>by cases e)⟩⟩
theorem Ah {g:AV->AV} (hg:jO g) {s:St} {p:Rt} {v x:AV} (hv:jd v) (hx:at_ s p=some x) (hn:jd x) {r:Rt} (hr:Lf s r) :
  at_ (setAt (cm g s) p v) r=if r=p then some v else (at_ s r).map (cD g):=by
 rw[CE ⟨hv,cD g x,by rw[iS hg,hx]; rfl,lx hg hn⟩ (hr.map hg),iS hg]
theorem sQ {g:AV->AV} (hg:jO g) {s:St} {p:Rt} {v x:AV} (hv:jd v) (hx:at_ s p=some x) (hn:jd x):Shape s (setAt (cm g s) p v):=
 (Shape.map hg s).trans (Shape.set ⟨hv,cD g x,by rw[iS hg,hx]; rfl,lx hg hn⟩)
theorem Kl {s s':St} {p q:Rt} (h:at_ s' p=at_ s q):au s' p=au s q:=by unfold au; rw[h]
theorem gN {s s':St} {p:Rt} (h:at_ s' p=at_ s p):au s' p=au s p:=by unfold au; rw[h]
theorem tr {s:St} {q:Rt} (h:¬Lf s q):au s q=none:=by
 cases e:au s q with
 |none=>rfl
 |some y=>exact absurd (FV (by rw[e]; rfl)) h
theorem Shape.nlf {s s':St} (h:Shape s s') {q:Rt} (hq:¬Lf s q):¬Lf s' q:=fun hl=>hq fun i hi cs hc=>by
 obtain⟨ds,h1,_⟩:=h.agg i cs hc;exact hl i hi ds h1
theorem xQ {s s':St} (iO:Shape s s') {f:Rt->Option (Nat × List AV)} (hf:∀q,Lf s q->au s' q=f q) (hn:∀q,¬Lf s q->f q=none) (q:Rt):au s' q=f q:=by
 by_cases hq:Lf s q
 ·exact hf q hq
 ·rw[hn q hq,tr (iO.nlf hq)]
theorem er.drop {X:Nat->Prop} {φ:cZ} {w:World} {N:Names} {s:St} {Ha:Heap} {t:Nat->Value} (h:er X φ w N s Ha t) {p:Rt} {k:Nat} {xs:List AV} (hp:au s p=some (k,xs)) :
  er X φ w N (setAt (cm (sw p) s) p .any) Ha t/\(∀q,au (setAt (cm (sw p) s) p .any) q=if q=p then none else au s q)/\Shape s (setAt (cm (sw p) s) p .any):=by
 have vU:=bY.1 hp;have hn:jd (.own k xs):=fun cs e=>by cases e
 have hv:jd .any:=fun cs e=>by cases e
 have iO:=sQ (Gn p) hv vU hn;have key:∀{r},Lf s r->at_ (setAt (cm (sw p) s) p .any) r=if r=p then some .any else (at_ s r).map (cD (sw p)):=fun hr=>Ah (Gn p) hv vU hn hr
 have own:∀q,au (setAt (cm (sw p) s) p .any) q=if q=p then none else au s q:=by
  refine xQ iO (fun q hq=>?_) (fun q hq=>?_)
  ·have e:=key hq;by_cases oU:q=p
   ·subst oU; rw[if_pos rfl] at e ⊢; unfold au; rw[e]
   ·rw[if_neg oU] at e ⊢;rw[<-gO (Gn p) s q];exact gN (by rw[e,iS (Gn p)])
  ·split
   ·rfl
   ·exact tr hq
 refine⟨h.change rfl iO (fun r x y hl hx hy=>?_) id (fun q k' ys e=>?_) (fun q r _ _ e=>e),own,iO⟩
 ·rw[key hl] at hy;by_cases DW:r=p
  ·rw[if_pos DW] at hy;cases hy;exact⟨trivial,Le.any _⟩
  ·rw[if_neg DW,hx] at hy;simp at hy;subst hy;have:=lz (N:=N) (N':=N) (o:=au s) (o':=au (setAt (cm (sw p) s) p .any)) (nb:=s.H.length) rfl (Gn p) (fun k q a l=>?_) (r:=r) (x:=x) (fun _ _ _=>rfl) (h.AM hx)
   ·rw[iO.len]; exact this
   ·simp only[sw];refine⟨fun ho=>?_,fun ho=>?_⟩
    ·split
     ·exact⟨trivial,Le.any _⟩
     ·rename_i oU;simp only[cB,own,if_neg oU] at ho ⊢;exact⟨ho,Le.refl _⟩
    ·split
     ·exact⟨trivial,Le.any _⟩
     ·rename_i oU;simp only[cB,own,if_neg oU] at ho ⊢;exact⟨ho,Le.refl _⟩
 ·rw[own] at e;split at e
  ·cases e
  ·exact⟨ys,e,rfl,ys.length,by simp⟩
theorem er.give {X:Nat->Prop} {φ:cZ} {w:World} {N:Names} {s:St} {Ha:Heap} {t:Nat->Value} (h:er X φ w N s Ha t) {p q:Rt} {k k' len:Nat} {xs:List AV} (hp:au s p=some (k,xs)) (hq:at_ s q=some (.dz k' p 0 len)) :
  ∃ N',N'.β=N.β/\er X φ w N' (setAt (setAt (cm (rt p q len) s) p .any) q (.own k (xs.take len))) Ha t/\(∀r,au (setAt (setAt (cm (rt p q len) s) p .any) q (.own k (xs.take len))) r=if r=q then some (k,xs.take len) else if r=p then none else au s r) /\
   Shape s (setAt (setAt (cm (rt p q len) s) p .any) q (.own k (xs.take len))):=by
 have cX:=h.AM hq;simp only[cB,hp,af,aB] at cX;obtain⟨_,⟨rfl,rfl⟩,hle⟩:=cX;have vU:=bY.1 hp;have hn:jd (.own k xs):=fun cs e=>by cases e
 have hv:jd .any:=fun cs e=>by cases e
 have oU:q≠p:=by rintro rfl; rw[vU] at hq; cases hq
 have qn:au s q=none:=by unfold au; rw[hq]
 have hg:=afm p q len;have key1:∀{r},Lf s r->at_ (setAt (cm (rt p q len) s) p .any) r=if r=p then some .any else (at_ s r).map (cD (rt p q len)):=fun hr=>Ah hg hv vU hn hr;have hsh1:Shape s (setAt (cm (rt p q len) s) p .any):=sQ hg hv vU hn;have hlq:Lf s q:=fun i hi cs hc=>by subst hi; simp[at_,hc] at hq
 have hx1:at_ (setAt (cm (rt p q len) s) p .any) q=some (cD (rt p q len) (.dz k p 0 len)):=by rw[key1 hlq,if_neg oU,hq]; rfl
 have hn1:jd (cD (rt p q len) (.dz k p 0 len)):=lx hg fun cs e=>by cases e
 have hv1:jd (.own k (xs.take len)):=fun cs e=>by cases e
 have hsh2:Shape s (setAt (setAt (cm (rt p q len) s) p .any) q (.own k (xs.take len))):=hsh1.trans (Shape.set ⟨hv1,_,hx1,hn1⟩);have lf1:∀{r},Lf s r->Lf (setAt (cm (rt p q len) s) p .any) r:=fun hr i hi=>hsh1.Ql i (hr i hi)
 have key:∀{r},Lf s r->at_ (setAt (setAt (cm (rt p q len) s) p .any) q (.own k (xs.take len))) r=if r=q then some (.own k (xs.take len)) else if r=p then some .any else (at_ s r).map (cD (rt p q len)):=by
  intro r hr;rw[CE ⟨hv1,_,hx1,hn1⟩ (lf1 hr),key1 hr]
 have own:∀r,au (setAt (setAt (cm (rt p q len) s) p .any) q (.own k (xs.take len))) r=if r=q then some (k,xs.take len) else if r=p then none else au s r:=by
  refine xQ hsh2 (fun r hr=>?_) (fun r hr=>?_)
  ·have e:=key hr;by_cases h1:r=q
   ·rw[if_pos h1] at e ⊢; exact bY.2 e
   ·rw[if_neg h1] at e ⊢;by_cases h2:r=p
    ·rw[if_pos h2] at e ⊢; unfold au; rw[e]
    ·rw[if_neg h2] at e ⊢;rw[<-gO hg s r];exact gN (by rw[e,iS hg])
  ·rw[if_neg (by rintro rfl; exact hr hlq)];split
   ·rfl
   ·exact tr hr
 refine⟨⟨N.β,fun r=>if r=q then N.ν p else N.ν r⟩,rfl,h.change rfl hsh2 (fun r x y hl hx hy=>?_) (fun r=>if r=q then p else r) (fun r k' ys e=>?_) (fun r1 r2 e1 e2 e=>?_),own,hsh2⟩
 ·rw[key hl] at hy;by_cases h1:r=q
  ·rw[if_pos h1] at hy;subst h1;rw[hq] at hx;cases hx;cases hy;refine⟨trivial,?_⟩;have hlen:(xs.take len).length=len:=by rw[bj]; omega
   simp only[iJ,cC,rA,if_true,hlen,s8];exact Le.refl _
  ·rw[if_neg h1] at hy;by_cases h2:r=p
   ·rw[if_pos h2] at hy;cases hy;exact⟨trivial,Le.any _⟩
   ·rw[if_neg h2,hx] at hy;simp at hy;subst hy;have:=lz (N:=N) (N':=⟨N.β,fun r=>if r=q then N.ν p else N.ν r⟩) (o:=au s) (o':=au (setAt (setAt (cm (rt p q len) s) p .any) q (.own k (xs.take len)))) (nb:=s.H.length) rfl hg (fun kk r' a l=>?_) (r:=r) (x:=x) (fun _ _ _=>by simp[h1]) (h.AM hx)
    ·rw[hsh2.len]; exact this
    ·simp only[rt];refine⟨fun ho=>?_,fun ho=>?_⟩
     ·split
      ·rename_i DW;subst DW;split
       ·rename_i LD;simp only[cB,hp,af,aB] at ho;obtain⟨_,⟨rfl,rfl⟩,_⟩:=ho;refine⟨?_,?_⟩
        ·simp only[cB,own,if_true];exact⟨_,rfl,by rw[bj]; omega⟩
        ·simp only[cC,if_true]; exact Le.refl _
       ·exact⟨trivial,Le.any _⟩
      ·rename_i DW;simp only[cB] at ho ⊢;obtain⟨zs,hz,hz2⟩:=ho;have hrq:r'≠q:=by rintro rfl; rw[qn] at hz; cases hz
       refine⟨⟨zs,by rw[own,if_neg hrq,if_neg DW]; exact hz,hz2⟩,?_⟩;simp only[cC,if_neg hrq]; exact Le.refl _
     ·split
      ·rename_i DW;subst DW;split
       ·rename_i LD;simp only[cB,hp,af,aB] at ho;obtain⟨_,⟨rfl,rfl⟩,_⟩:=ho;refine⟨?_,?_⟩
        ·simp only[cB,own,if_true];exact⟨_,rfl,by rw[bj]; omega⟩
        ·simp only[cC,if_true]; exact Le.refl _
       ·exact⟨trivial,Le.any _⟩
      ·rename_i DW;simp only[cB] at ho ⊢;obtain⟨zs,hz,hz2⟩:=ho;have hrq:r'≠q:=by rintro rfl; rw[qn] at hz; cases hz
       refine⟨⟨zs,by rw[own,if_neg hrq,if_neg DW]; exact hz,hz2⟩,?_⟩;simp only[cC,if_neg hrq]; exact Le.refl _
 ·rw[own] at e;by_cases h1:r=q
  ·rw[if_pos h1] at e;simp only[af,aB] at e;obtain⟨rfl,rfl⟩:=e;exact⟨xs,by simp[h1,hp],by simp[h1,oU.symm],len,rfl⟩
  ·rw[if_neg h1] at e;by_cases h2:r=p
   ·rw[if_pos h2] at e; cases e
   ·rw[if_neg h2] at e;exact⟨ys,by simp[h1,e],by simp[h1],ys.length,by simp⟩
 ·have np:∀r,(au (setAt (setAt (cm (rt p q len) s) p .any) q (.own k (xs.take len))) r).isSome->r≠p:=by
   intro r hr e;subst e;rw[own,if_neg (tQ oU),if_pos rfl] at hr;cases hr
  by_cases h1:r1=q<;>by_cases h2:r2=q
  ·rw[h1,h2]
  ·simp only[h1,h2,if_true,if_false] at e;exact absurd e.symm (np r2 e2)
  ·simp only[h1,h2,if_true,if_false] at e;exact absurd e (np r1 e1)
  ·simpa only[h1,h2,if_false] using e
end Go.Bm

/- What is owned becomes a value by value. -/
namespace Go.Bm
open Go.Am

theorem Bj {k:Nat}:∀{xs:List AV},(∀x∈xs,x.cells.length=k)->∀{i j:Nat} {x c:AV},xs[i]?=some x->x.cells[j]?=some c->(aA xs)[i*k+j]?=some c
 |[],_,i,j,x,c,h,_=>by simp at h
 |y::r,hk,i,j,x,c,h,hc=>by
   have hy:=hk y (by simp);cases i with
   |zero=>
     simp at h; subst h;simp only[aA,s8,fg];rw[az (ak hc)];exact hc
   |succ i=>
     simp at h;have:=Bj (xs:=r) (fun z hz=>hk z (by simp[hz])) h hc;simp only[aA];rw[aN (by rw[hy,ct]; omega),hy,ct,show i*k+1*k+j-k=i*k+j by omega];exact this
mutual
theorem fT:∀x:AV,pl x=true->x.plain=true
 |.agg cs,h=>by simp only[pl] at h; simp only[AV.plain]; exact tq cs h
 |.dF cs,h=>by simp only[pl] at h; simp only[AV.plain]; exact tq cs h
 |.func _ a b,h=>by simp only[pl,ae] at h; simp only[AV.plain,ae]; exact⟨tq a h.2.1,tq b h.2.2⟩
 |.any,_=>rfl
 |.undef,_=>rfl
 |.fo,_=>rfl
 |.fv,_=>rfl
 |.dp,_=>rfl
 |.int _ _,_=>rfl
 |.bool _,_=>rfl
 |.str _,_=>rfl
 |.list _ _,_=>rfl
 |.dh _,_=>rfl
 |.own _ _,h=>by simp[pl] at h
 |.dz _ _ _ _,h=>by simp[pl] at h
 |.eV _ _ _ _,h=>by simp[pl] at h
 |.ptr _ _,h=>by simp[pl] at h
 |.sl _ _ _ _,h=>by simp[pl] at h
theorem tq:∀cs:List AV,eE cs=true->rm cs=true
 |[],_=>rfl
 |x::r,h=>by simp only[eE,ae] at h; simp only[rm,ae]; exact⟨fT x h.1,tq r h.2⟩
end
theorem lG {c:AV} (h:fz c=true):pl c=true/\c.leaf=true:=by
 unfold fz at h;simp only[ae] at h;exact⟨h.2,h.1⟩
section
variable {X:Nat->Prop} {φ:cZ} {w:World} {Ha:Heap}
theorem xP (h:bV X φ w Ha) {n k:Nat} {xs:List AV} (ho:qV Ha (some n) k xs) :
  ∃ g sz,φ[n]?=some (some (g,sz))/\¬ X g/\∀ (i j:Nat) (x c:AV),xs[i]?=some x->x.cells[j]?=some c->∃u,w.cell? ⟨g,i*k+j,none⟩=some u/\fz c=true/\bF (Rd X φ w) [] c u:=by
 obtain⟨cs,h1,h2,h3,h4⟩:=ho;obtain⟨g,sz,arr,e,g1,g2,g3,g4,g5,g6⟩:=h.at h1;refine⟨g,sz,g1,g5,fun i j x c hx hc=>?_⟩;obtain⟨f1,a,f2,lf,f3⟩:=h4 _ c (Bj h3 hx hc);obtain⟨u,u1,u2⟩:=g6 _ a f2;obtain⟨te,rfl,_⟩:=g3.leaf u1 u2 lf;exact⟨u,by rw[gS g2]; exact u1,f1,(f3 _ _ _ u2).dC (fT _ (lG f1).1) []⟩
theorem XP {n g sz:Nat} (h:bV X φ w Ha) (jU:φ[n]?=some (some (g,sz))) {o:Nat} {u:Value} (hX:¬X g) (hu:w.cell? ⟨g,o,none⟩=some u):Rd X (φ.set n none) w ⟨g,o,none⟩ u:=by
 refine⟨hX,fun⟨b,pe,hb⟩=>?_,hu⟩;rw[aX] at hb;split at hb
 ·split at hb<;>simp at hb
 ·rename_i tN;exact tN (h.inj n b g sz pe jU hb)
theorem XO (n:Nat):∀a u,Rd X φ w a u->Rd X (φ.set n none) w a u:=fun _ _ ⟨h1,h2,h3⟩=>⟨h1,fun h=>h2 (I4 h),h3⟩
theorem G9 (h:bV X φ w Ha) {n k:Nat} {xs:List AV} (ho:qV Ha (some n) k xs) {off len:Nat} (hle:off+len<=xs.length) {v:Value} (r:bF (Rd X φ w) φ (.sl k n (off*k) len) v) (ψ:cZ) :
  bF (Rd X (φ.set n none) w) ψ (.list k ((xs.drop off).take len)) v:=by
 cases r with
 |sl _ _ _ _ _ a cap hb iP hh=>
   obtain⟨g,sz,jU,hX,hc⟩:=xP h ho;obtain⟨h1,h2⟩:=hh g sz jU;by_cases h0:len=0
   ·subst h0;simp only[List.take_zero];exact .vO _ _ _ _ _ _ (fun _ _=>undef) rfl iP (fun x hx=>by simp at hx) (fun i j x c hx=>by simp at hx) (fun i j x c hx=>by simp at hx)
   ·have ha:=h1 (by omega);subst ha
    have hx:∀(i:Nat) (x:AV),((xs.drop off).take len)[i]?=some x->xs[off+i]?=some x/\i<len:=by
     intro i x hx;rw[bE] at hx;split at hx
     ·rw[aW] at hx; exact⟨hx,‹_›⟩
     ·cases hx
    obtain⟨cs,q1,q2,hk,q4⟩:=ho;refine .vO _ _ _ _ _ _ (fun i j=>(w.cell? ⟨g,(off+i)*k+j,none⟩).getD undef) (by simp; omega) iP (fun x hm=>?_) (fun i j x c hi hj=>?_) (fun i j x c hi hj=>?_)
    ·exact hk x (cT (cS hm))
    ·obtain⟨u,u1,_,_⟩:=hc _ j x c (hx i x hi).1 hj;rw[u1,Addr.iq,show off*k+(i*k+j)=(off+i)*k+j by rw[ct]; omega];exact XP h jU hX u1
    ·obtain⟨u,u1,_,u3⟩:=hc _ j x c (hx i x hi).1 hj;rw[u1];exact u3.mono (XO n) (.refl _)
theorem WV (h:bV X φ w Ha) {n k:Nat} {xs:List AV} (ho:qV Ha (some n) k xs) {i o:Nat} {x:AV} (hx:xs[i]?=some x) {v:Value} (r:bF (Rd X φ w) φ (.ptr n (i*k+o)) v) (ψ:cZ) :
  bF (Rd X (φ.set n none) w) ψ (.dh (x.cells.drop o)) v:=by
 cases r with
 |ptr _ _ _ a hb hh=>
   obtain⟨g,sz,jU,hX,hc⟩:=xP h ho;have ha:=(hh g sz jU).1;subst ha;refine .dh _ _ _ (fun j=>(w.cell? ⟨g,i*k+(o+j),none⟩).getD undef) (fun j c hj=>?_) (fun j c hj=>?_)
   ·rw[aW] at hj;obtain⟨u,u1,_,_⟩:=hc i (o+j) x c hx hj;rw[u1,Addr.iq,show i*k+o+j=i*k+(o+j) by omega];exact XP h jU hX u1
   ·rw[aW] at hj;obtain⟨u,u1,_,u3⟩:=hc i (o+j) x c hx hj;rw[u1];exact u3.mono (XO n) (.refl _)
end
theorem aaW {R R':Addr->Value->Prop} {φ φ':cZ} {N N':Names} {i:Nat} {x y:AV} (h1:∀cs,x=.agg cs->∃ds,y=.agg ds/\ds.length=cs.length/\∀ (j:Nat) (c d:AV),cs[j]?=some c->ds[j]?=some d->∀u,bF R φ (iJ N (.sc i j) c) u->bF R' φ' (iJ N' (.sc i j) d) u)
  (h2:jd x->jd y/\∀ v,bF R φ (iJ N (.s i) x) v->bF R' φ' (iJ N' (.s i) y) v) {v:Value} (hv:bF R φ (jY N i x) v):bF R' φ' (jY N' i y) v:=by
 by_cases hx:∃cs,x=.agg cs
 ·obtain⟨cs,rfl⟩:=hx;obtain⟨ds,rfl,hl,h⟩:=h1 cs rfl;simp only[jY] at hv ⊢;cases hv with
  |agg _ _ vs HG hh=>
    rw[fR] at HG;refine .agg _ _ _ (by rw[fR]; omega) fun j c u hc hu=>?_;rw[fE] at hc;simp only[fg] at hc;cases hd:ds[j]? with
    |none=>rw[hd] at hc; cases hc
    |some d=>
      rw[hd] at hc;simp at hc;subst hc;obtain⟨c,hc⟩:=aZ (l:=cs) (i:=j) (by have:=ak hd; omega);exact h j c d hc hd u (hh j _ u (by rw[fE,hc]; simp) hu)
 ·have hn:jd x:=fun cs e=>hx ⟨cs,e⟩;obtain⟨hy,hle⟩:=h2 hn;have e1:jY N' i y=iJ N' (.s i) y:=by cases y<;>first|rfl|exact absurd rfl (hy _)
  have e2:jY N i x=iJ N (.s i) x:=by cases x<;>first|rfl|exact absurd rfl (hn _)
  rw[e2] at hv;rw[e1];exact hle v hv
mutual
theorem L7 {R R':Addr->Value->Prop} {φ φ':cZ} {N N':Names} {o o':Rt->Option (Nat × List AV)} {nb:Nat} {g:AV->AV} (hR:∀a u,R a u->R' a u) (jU:xt φ φ') (ep:N'.β=N.β)
  (hl:∀k p a l,(cB o nb (.dz k p a l)->cB o' nb (g (.dz k p a l))/\∀ v,bF R φ (cC N (.dz k p a l)) v->bF R' φ' (cC N' (g (.dz k p a l))) v)/\(cB o nb (.eV k p a l)->cB o' nb (g (.eV k p a l))/\∀ v,bF R φ (cC N (.eV k p a l)) v->bF R' φ' (cC N' (g (.eV k p a l))) v)) :
  ∀ x,cB o nb x->cB o' nb (cD g x)/\∀ v,bF R φ (cC N x) v->bF R' φ' (cC N' (cD g x)) v
 |.dz k p a l,h=>by simp only[cD]; exact (hl k p a l).1 h
 |.eV k p a l,h=>by simp only[cD]; exact (hl k p a l).2 h
 |.agg cs,h=>by
   simp only[cB] at h;obtain⟨h1,h3⟩:=tl hR jU ep hl cs h;simp only[cD,cB,cC];refine⟨h1,fun v r=>?_⟩;cases r with
   |agg _ _ vs HG ZJ=>
     refine .agg _ _ _ (by simp only[dB,cv] at HG ⊢; exact HG) fun i c u hc hu=>?_;exact h3 i c u hc (fun y hy=>ZJ i y u hy hu)
 |.dF cs,h=>by
   simp only[cB] at h;obtain⟨h1,h3⟩:=tl hR jU ep hl cs h;simp only[cD,cB,cC];refine⟨h1,fun v r=>?_⟩;cases r with
   |dF _ _ vs HG ZJ=>
     refine .dF _ _ _ (by simp only[dB,cv] at HG ⊢; exact HG) fun i c u hc hu=>?_;exact h3 i c u hc (fun y hy=>ZJ i y u hy hu)
 |.func f a b,h=>by
   simp only[cB] at h;obtain⟨h1,h3⟩:=tl hR jU ep hl a h.1;obtain⟨k1,k3⟩:=tl hR jU ep hl b h.2.1;simp only[cD,cB,cC];refine⟨⟨h1,k1,fun hy=>by obtain⟨rfl,c,rfl⟩:=h.2.2 hy; exact⟨rfl,c,by simp only[cO,cD]⟩⟩,fun v r=>?_⟩;rcases r.w8 with⟨hy,va,vb,rfl,zT,zS,ha,hb⟩|⟨b0,r0,rfl,ea,eb,rfl,hb0,hr0⟩
   ·refine .func _ _ _ _ _ _ hy (by simp only[dB,cv] at zT ⊢; exact zT) (by simp only[dB,cv] at zS ⊢; exact zS) (fun i c u hc hu=>?_) (fun i c u hc hu=>?_)
    ·exact h3 i c u hc (fun y hy=>ha i y u hy hu)
    ·exact k3 i c u hc (fun y hy=>hb i y u hy hu)
   ·obtain⟨rfl,c,rfl⟩:=h.2.2 rfl;simp only[kj,cC,cO,cD,ep] at eb ⊢;simp only[O3,AV.ptr.injEq,and_true] at eb;subst eb;exact (bF.zC (R:=R) _ _ _ hb0 hr0).mono hR jU
 |.any,h=>⟨h,fun v r=>r.mono hR jU⟩
 |.undef,h=>⟨h,fun v r=>r.mono hR jU⟩
 |.fo,h=>⟨h,fun v r=>r.mono hR jU⟩
 |.fv,h=>⟨h,fun v r=>r.mono hR jU⟩
 |.dp,h=>⟨h,fun v r=>r.mono hR jU⟩
 |.int _ _,h=>⟨h,fun v r=>r.mono hR jU⟩
 |.bool _,h=>⟨h,fun v r=>r.mono hR jU⟩
 |.str _,h=>⟨h,fun v r=>r.mono hR jU⟩
 |.list _ _,h=>⟨h,fun v r=>r.mono hR jU⟩
 |.dh _,h=>⟨h,fun v r=>r.mono hR jU⟩
 |.own _ _,h=>⟨h,fun v r=>r.mono hR jU⟩
 |.sl _ b _ _,h=>by simp only[cD,cC,ep]; exact⟨h,fun v r=>r.mono hR jU⟩
 |.ptr b off,h=>by simp only[cD,cC,ep]; exact⟨h,fun v r=>r.mono hR jU⟩
theorem tl {R R':Addr->Value->Prop} {φ φ':cZ} {N N':Names} {o o':Rt->Option (Nat × List AV)} {nb:Nat} {g:AV->AV} (hR:∀a u,R a u->R' a u) (jU:xt φ φ') (ep:N'.β=N.β)
  (hl:∀k p a l,(cB o nb (.dz k p a l)->cB o' nb (g (.dz k p a l))/\∀ v,bF R φ (cC N (.dz k p a l)) v->bF R' φ' (cC N' (g (.dz k p a l))) v)/\(cB o nb (.eV k p a l)->cB o' nb (g (.eV k p a l))/\∀ v,bF R φ (cC N (.eV k p a l)) v->bF R' φ' (cC N' (g (.eV k p a l))) v)) :
  ∀ cs,jZ o nb cs->jZ o' nb (cO g cs)/\∀ (i:Nat) (x:AV) (u:Value),(kj N' (cO g cs))[i]?=some x->(∀y,(kj N cs)[i]?=some y->bF R φ y u)->bF R' φ' x u
 |[],_=>⟨trivial,fun i x u h=>by simp[cO,kj] at h⟩
 |c::r,h=>by
   simp only[jZ] at h;obtain⟨h1,h2⟩:=L7 hR jU ep hl c h.1;obtain⟨k1,k3⟩:=tl hR jU ep hl r h.2;refine⟨⟨h1,k1⟩,fun i x u hx hy=>?_⟩;cases i with
   |zero=>simp[cO,kj] at hx hy; subst hx; exact h2 u hy
   |succ i=>simp[cO,kj] at hx hy; exact k3 i x u hx hy
end
theorem xd (L:Nat) (G:Nat->Ru):∃H:Heap,H.length=L/\∀ m,m<L->H[m]?=some (G m):=
 ⟨(List.range L).map G,by simp,fun m hm=>by simp[hm]⟩
theorem J8 {N N':Names} {g:AV->AV} (hg:jO g) {r:Rt} {x:AV} (ho:NOwn x):iJ N r x=cC N x/\iJ N' r (cD g x)=cC N' (cD g x):=by
 constructor
 ·cases x<;>first|rfl|exact absurd rfl (ho _ _)
 ·have:∀k xs,cD g x≠.own k xs:=fun k xs e=>ho k xs ((wQ hg x k xs).1 e);generalize cD g x=y at this;cases y<;>first|rfl|exact absurd rfl (this _ _)
theorem er.Cw {X:Nat->Prop} {φ:cZ} {w:World} {N:Names} {s:St} {Ha:Heap} {t:Nat->Value} (h:er X φ w N s Ha t) (p:Rt) :
  ∃ φ' Ha',er X φ' w N (GJ s p) Ha' t/\eW φ w φ' w/\(∀q,au (GJ s p) q=if q=p then none else au s q)/\Shape s (GJ s p):=by
 unfold GJ;cases hp:au s p with
 |none=>
   refine⟨φ,Ha,h,.refl _ _,fun q=>?_,.refl _⟩;by_cases e:q=p
   ·rw[if_pos e,e]; exact hp
   ·rw[if_neg e]
 |some y=>
   obtain⟨k,xs⟩:=y;simp only;have vU:=bY.1 hp;have hn:jd (.own k xs):=fun cs e=>by cases e
   have hv:jd (.list k xs):=fun cs e=>by cases e
   have hg:=afo p k xs;have iO:=sQ hg hv vU hn;generalize NX:setAt (cm (fb p k xs) s) p (.list k xs)=s' at iO ⊢;have key:∀{r},Lf s r->at_ s' r=if r=p then some (.list k xs) else (at_ s r).map (cD (fb p k xs)):=fun hr=>by rw[<-NX]; exact Ah hg hv vU hn hr
   have own:∀q,au s' q=if q=p then none else au s q:=by
    refine xQ iO (fun q hq=>?_) (fun q hq=>?_)
    ·have e:=key hq;by_cases oU:q=p
     ·subst oU; rw[if_pos rfl] at e ⊢; unfold au; rw[e]
     ·rw[if_neg oU] at e ⊢;rw[<-gO hg s q];exact gN (by rw[e,iS hg])
    ·split
     ·rfl
     ·exact tr hq
   have eM:=h.own p k xs hp;cases kL:N.ν p with
   |none=>
     rw[kL] at eM;have eM:xs=[]:=eM;subst eM;refine⟨φ,Ha,h.change rfl iO (fun r x y hl hx hy=>?_) id (fun q k' ys e=>?_) (fun q r _ _ e=>e),.refl _ _,own,iO⟩
     ·rw[key hl] at hy;by_cases DW:r=p
      ·rw[if_pos DW] at hy;subst DW;rw[vU] at hx;cases hx; cases hy;refine⟨trivial,?_⟩;simp only[iJ,cC,rA,kL];exact Le.gq k
      ·rw[if_neg DW,hx] at hy;simp at hy;subst hy;have:=lz (N:=N) (N':=N) (o:=au s) (o':=au s') (nb:=s.H.length) rfl hg (fun k' q a l=>?_) (r:=r) (x:=x) (fun _ _ _=>rfl) (h.AM hx)
       ·rw[iO.len]; exact this
       ·simp only[fb];refine⟨fun ho=>?_,fun ho=>?_⟩
        ·by_cases oU:q=p
         ·rw[if_pos oU];subst oU;simp only[cB,hp,af,aB] at ho;obtain⟨_,⟨rfl,rfl⟩,hle⟩:=ho;rw[if_pos ⟨rfl,hle⟩];refine⟨trivial,?_⟩;simp only[cC,kL,List.drop_nil,List.take_nil];exact Le.gq k
         ·rw[if_neg oU];simp only[cB,own,if_neg oU] at ho ⊢;exact⟨ho,Le.refl _⟩
        ·by_cases oU:q=p
         ·subst oU;simp only[cB,hp,af,aB] at ho;obtain⟨_,⟨rfl,rfl⟩,hle⟩:=ho;simp at hle
         ·rw[if_neg oU];simp only[cB,own,if_neg oU] at ho ⊢;exact⟨ho,Le.refl _⟩
     ·rw[own] at e;split at e
      ·cases e
      ·exact⟨ys,e,rfl,ys.length,by simp⟩
   |some n=>
     rw[kL] at eM;obtain⟨_,uh⟩:=h.heap.Zg n;have hr2:∀a u,Rd X φ w a u->Rd X (φ.set n none) w a u:=uh.rd
     have conv:∀r x y,Lf s r->at_ s r=some x->at_ s' r=some y->cB (au s') s'.H.length y/\∀ v,bF (Rd X φ w) φ (iJ N r x) v->bF (Rd X (φ.set n none) w) (φ.set n none) (iJ N r y) v:=by
      intro r x y hl hx hy;rw[key hl] at hy;by_cases DW:r=p
      ·rw[if_pos DW] at hy;subst DW;rw[vU] at hx;cases hx; cases hy;refine⟨trivial,fun v hv=>?_⟩;simp only[iJ,cC,rA,kL] at hv ⊢;have:=G9 h.heap eM (off:=0) (len:=xs.length) (by omega) (by simpa using hv) (φ.set n none);simpa using this
      ·rw[if_neg DW,hx] at hy;simp at hy;subst hy
       have Uh:=L7 (R:=Rd X φ w) (R':=Rd X (φ.set n none) w) (φ:=φ) (φ':=φ.set n none) (N:=N) (N':=N) (o:=au s) (o':=au s') (nb:=s.H.length) (g:=fb p k xs) hr2 uh.Tj rfl (fun k' q a l=>by
        simp only[fb];refine⟨fun ho=>?_,fun ho=>?_⟩
        ·by_cases oU:q=p
         ·rw[if_pos oU];subst oU;simp only[cB,hp,af,aB] at ho;obtain⟨_,⟨rfl,rfl⟩,hle⟩:=ho;rw[if_pos ⟨rfl,hle⟩];refine⟨trivial,fun v hv=>?_⟩;simp only[cC,kL] at hv ⊢;exact G9 h.heap eM hle hv _
         ·rw[if_neg oU];simp only[cB,own,if_neg oU] at ho ⊢;exact⟨ho,fun v hv=>hv.mono hr2 uh.Tj⟩
        ·by_cases oU:q=p
         ·rw[if_pos oU];subst oU;simp only[cB,hp,af,aB] at ho;obtain⟨_,⟨rfl,rfl⟩,hle⟩:=ho;rw[if_pos rfl];obtain⟨x,hx⟩:=aZ hle;rw[hx];refine⟨trivial,fun v hv=>?_⟩;simp only[cC,kL] at hv ⊢;exact WV h.heap eM hx hv _
         ·rw[if_neg oU];simp only[cB,own,if_neg oU] at ho ⊢;exact⟨ho,fun v hv=>hv.mono hr2 uh.Tj⟩) x (h.AM hx)
       refine⟨by rw[iO.len]; exact Uh.1,fun v hv=>?_⟩;by_cases hxo:∃k' ys,x=.own k' ys
       ·obtain⟨k',ys,rfl⟩:=hxo;simp only[cD,iJ,rA] at hv ⊢;exact hv.mono hr2 uh.Tj
       ·obtain⟨e1,e2⟩:=J8 (N:=N) (N':=N) hg (r:=r) (x:=x) (fun k ys e=>hxo ⟨k,ys,e⟩);rw[e1] at hv;rw[e2];exact Uh.2 v hv
     obtain⟨hk,hkc⟩:=F0 (o:=au s') (nb:=s'.H.length) (s:=s') fun r y hl hy=>by
      obtain⟨Wm,x,hx⟩:=iO.back hl hy;exact (conv r x y Wm hx hy).1
     have sb:∀{b},(aJ s'.H b).isSome->(aJ s.H b).isSome:=by
      intro b hb;cases e:aJ s.H b with
      |none=>rw[iO.DR b e] at hb; cases hb
      |some _=>rfl
     have so:∀{q},(au s' q).isSome->(au s q).isSome/\q≠p:=by
      intro q hq;rw[own] at hq;by_cases e:q=p
      ·rw[if_pos e] at hq; cases hq
      ·rw[if_neg e] at hq; exact⟨hq,e⟩
     classical
     obtain⟨Ha',hL,hG⟩:=xd Ha.length (fun m=>if m=n then none else if hb:∃z:Nat × List AV,aJ s'.H z.1=some z.2/\N.β z.1=m then some (PF N (.c hb.choose.1) 0 hb.choose.2) else (Ha[m]?).getD none)
     have hbox:∀b cs,aJ s'.H b=some cs->aJ Ha' (N.β b)=some (PF N (.c b) 0 cs):=by
      intro b cs hb;obtain⟨Xg,DZ⟩:=aR.1 (sb (by rw[hb]; rfl:(aJ s'.H b).isSome));obtain⟨as,g1,_⟩:=h.box b Xg DZ;rw[blk_iff,hG _ (dx g1)];have tN:N.β b≠n:=fun e=>h.bx b p (by rw[DZ]; rfl) (by rw[hp]; rfl) (by rw[kL,e]);have hex:∃z:Nat × List AV,aJ s'.H z.1=some z.2/\N.β z.1=N.β b:=⟨(b,cs),hb,rfl⟩;rw[if_neg tN,dif_pos hex];have e1:hex.choose.1=b:=h.bi _ _ (sb (by rw[hex.choose_spec.1]; rfl)) (by rw[DZ]; rfl) hex.choose_spec.2
      have e2:hex.choose.2=cs:=by
       have:=hex.choose_spec.1;rw[e1,hb] at this;exact (bK this).symm
      rw[e2,e1]
     have Cm:∀m,m≠n->(¬∃z:Nat × List AV,aJ s'.H z.1=some z.2/\N.β z.1=m)->Ha'[m]?=Ha[m]?:=by
      intro m hm NZ;by_cases bQ:m<Ha.length
      ·rw[hG m bQ,if_neg hm,dif_neg NZ];obtain⟨x,hx⟩:=aZ bQ;rw[hx]; rfl
      ·rw[dW (by omega),dW (by omega)]
     refine⟨φ.set n none,Ha',⟨fun i=>?_,hk,⟨?_,h.heap.HK,fun m cs hm=>?_,fun m hm=>?_,fun m m' g sz pe e1 e2=>?_⟩,fun q k' ys e=>?_,fun b cs e=>?_,fun q r m e1 e2 e3 e4=>?_,fun b q e1 e2 e3=>?_,fun b c e1 e2 e3=>?_⟩,uh,own,iO⟩
     ·refine aaW (fun cs dG=>?_) (fun hnn=>⟨iO.Ql i hnn,?_⟩) (h.env i)
      ·obtain⟨ds,h1,h2⟩:=iO.agg i cs dG;refine⟨ds,h1,h2,fun j c d hc hd=>(conv (.sc i j) c d (fun i e=>by cases e) ?_ ?_).2⟩
       ·rw[Hf dG]; exact hc
       ·rw[Hf h1]; exact hd
      ·exact (conv (.s i) _ _ (fun j e=>by cases e; exact hnn) rfl rfl).2
     ·rw[List.length_set,h.heap.len,hL]
     ·have bQ:=ak hm;rw[hL] at bQ;by_cases Ej:m=n
      ·rw[hG m bQ,if_pos Ej] at hm; cases hm
      ·by_cases NZ:∃z:Nat × List AV,aJ s'.H z.1=some z.2/\N.β z.1=m
       ·obtain⟨⟨b,ds⟩,hb,rfl⟩:=NZ;simp only at hb hm Ej;have:=hbox b ds hb;rw[blk_iff,hm] at this;cases this;obtain⟨Xg,DZ⟩:=aR.1 (sb (by rw[hb]; rfl:(aJ s'.H b).isSome));obtain⟨as,g1,g2,g3⟩:=h.box b Xg DZ;obtain⟨g,sz,arr,e,f1,f2,f3,f4,f5,f6⟩:=h.heap.at g1;obtain⟨ds',q1,q2⟩:=iO.box b Xg DZ;rw[hb] at q1; cases q1;refine⟨g,sz,arr,e,?_,f2,f3,by rw[fR]; omega,f5,fun i c hc=>?_⟩
        ·rw[fX (tQ Ej)]; exact f1
        ·rw[fE] at hc;simp only[fg] at hc;cases hd:ds[i]? with
         |none=>rw[hd] at hc; cases hc
         |some d=>
           rw[hd] at hc;simp at hc;subst hc;obtain⟨c0,GC⟩:=aZ (l:=Xg) (i:=i) (by have:=ak hd; omega);obtain⟨_,a,a1,a2⟩:=g3 i c0 GC;obtain⟨u,u1,u2⟩:=f6 i a a1;exact⟨u,u1,(conv (.c b i) c0 d (fun i e=>by cases e) (by rw[xh DZ]; exact GC) (by rw[xh hb]; exact hd)).2 u (a2 _ _ _ u2)⟩
       ·rw[Cm m Ej NZ] at hm;obtain⟨g,sz,arr,e,f1,f2,f3,f4,f5,f6⟩:=h.heap.live m cs hm;refine⟨g,sz,arr,e,?_,f2,f3,f4,f5,fun i c hc=>?_⟩
        ·rw[fX (tQ Ej)]; exact f1
        ·obtain⟨u,u1,u2⟩:=f6 i c hc;exact⟨u,u1,u2.mono hr2 uh.Tj⟩
     ·by_cases Ej:m=n
      ·subst Ej;have bQ:=ak hm;rw[List.getElem?_set_self (by rw[h.heap.len]; omega)]
      ·rw[fX (tQ Ej)];by_cases NZ:∃z:Nat × List AV,aJ s'.H z.1=some z.2/\N.β z.1=m
       ·obtain⟨⟨b,ds⟩,hb,rfl⟩:=NZ;simp only at hb hm Ej;have:=hbox b ds hb;rw[blk_iff,hm] at this;cases this
       ·rw[Cm m Ej NZ] at hm;exact h.heap.dead m hm
     ·have sub:∀m g sz:Nat,(φ.set n none)[m]?=some (some (g,sz))->φ[m]?=some (some (g,sz)):=by
       intro m g sz e;rw[aX] at e;split at e
       ·split at e<;>simp at e
       ·exact e
      exact h.heap.inj m m' g sz pe (sub _ _ _ e1) (sub _ _ _ e2)
     ·have hq:=own q;rw[e] at hq;by_cases oU:q=p
      ·rw[if_pos oU] at hq; cases hq
      ·rw[if_neg oU] at hq;have ho:=h.own q k' ys hq.symm;cases hνq:N.ν q with
       |none=>rw[hνq] at ho; exact ho
       |some m=>
         rw[hνq] at ho;obtain⟨cs,c1,c2⟩:=ho
         have Ej:m≠n:=by
          intro e; subst e;exact oU (h.inj q p m (by rw[<-hq]; rfl) (by rw[hp]; rfl) hνq kL)
         refine⟨cs,?_,c2⟩;rw[blk_iff,Cm m Ej ?_]
         ·exact rS c1
         ·rintro⟨⟨b,ds⟩,hb,rfl⟩;exact h.bx b q (sb (by rw[hb]; rfl)) (by rw[<-hq]; rfl) hνq
     ·refine⟨_,hbox b cs e,fR _ _ _ _,fun j c hc=>⟨hkc b cs e j c hc,_,by rw[fE,hc]; simp,Le.refl _⟩⟩
     ·exact h.inj q r m (so e1).1 (so e2).1 e3 e4
     ·exact h.bx b q (sb e1) (so e2).1 e3
     ·exact h.bi b c (sb e1) (sb e2) e3
end Go.Bm

/- Owners that go, values that go to their slots, the end of a region. -/
namespace Go.Bm
open Go.Am

def SB (X:Nat->Prop) (φ:cZ) (w:World) (B:Nat->Nat) (base:Nat) (s:St) (t:Nat->Value):Prop:=∃N Ha,er X φ w N s Ha t/\(∀b,b<base->N.β b=B b)/\base<=s.H.length
section
variable {X:Nat->Prop} {φ:cZ} {w:World} {N:Names} {s s':St} {Ha:Heap} {t:Nat->Value} {B:Nat->Nat} {base:Nat}

theorem SB.Cw (h:SB X φ w B base s t) (p:Rt):∃φ',SB X φ' w B base (GJ s p) t/\eW φ w φ' w:=by
 obtain⟨N,Ha,h,hb,hl⟩:=h;obtain⟨φ',Ha',h1,h2,_,h3⟩:=h.Cw p;exact⟨φ',⟨N,Ha',h1,hb,by rw[h3.len]; exact hl⟩,h2⟩
theorem SB.dK:∀(ps:List Rt) {φ:cZ} {s:St},SB X φ w B base s t->∃φ',SB X φ' w B base (dK ps s) t/\eW φ w φ' w
 |[],φ,s,h=>⟨φ,h,.refl _ _⟩
 |p::r,φ,s,h=>by
   obtain⟨oa,h1,a1⟩:=h.Cw p;obtain⟨kQ,h2,a2⟩:=SB.dK r h1;exact⟨kQ,h2,a1.trans a2⟩
theorem SB.rel (h:SB X φ w B base s t) (p:Rt):∃φ',SB X φ' w B base (rel s p) t/\eW φ w φ' w:=by
 unfold Go.Bm.rel;split
 ·exact⟨φ,h,.refl _ _⟩
 ·rename_i k xs hp;split
  ·obtain⟨N,Ha,h,hb,hl⟩:=h;exact⟨φ,⟨N,Ha,(h.drop hp).1,hb,by rw[(h.drop hp).2.2.len]; exact hl⟩,.refl _ _⟩
  ·rename_i q hq;split
   ·rename_i k' r len vU;split
    ·rename_i hr;subst hr;obtain⟨N,Ha,h,hb,hl⟩:=h;obtain⟨N',e,h',_,h3⟩:=h.give hp vU;exact⟨φ,⟨N',Ha,h',fun b bQ=>by rw[e]; exact hb b bQ,by rw[h3.len]; exact hl⟩,.refl _ _⟩
    ·exact h.Cw p
   ·exact h.Cw p
theorem SB.HN (i:Nat):∀(cs:List AV) (j:Nat) {φ:cZ} {s:St},SB X φ w B base s t->∃φ',SB X φ' w B base (HN i j cs s) t/\eW φ w φ' w
 |[],j,φ,s,h=>⟨φ,h,.refl _ _⟩
 |x::r,j,φ,s,h=>by
   have skip:∃φ',SB X φ' w B base (Go.Bm.HN i (j+1) r s) t/\eW φ w φ' w:=SB.HN i r (j+1) h
   cases x<;>first
    |exact skip
    | (obtain ⟨oa, h1, a1⟩ := h.rel (.sc i j)
       obtain⟨kQ,h2,a2⟩:=SB.HN i r (j+1) h1;exact⟨kQ,h2,a1.trans a2⟩)
theorem SB.Bo (h:SB X φ w B base s t) (i:Nat):∃φ',SB X φ' w B base (Bo s i) t/\eW φ w φ' w:=by
 unfold Go.Bm.Bo;split
 ·exact h.rel _
 ·exact SB.HN i _ 0 h
 ·exact⟨φ,h,.refl _ _⟩
theorem SB.nV (keep:List Nat):∀(e:Env) {φ:cZ} {s:St},SB X φ w B base s t->∃φ',SB X φ' w B base (nV keep e s) t/\eW φ w φ' w
 |[],φ,s,h=>⟨φ,h,.refl _ _⟩
 |(i,v)::r,φ,s,h=>by
   simp only[Go.Bm.nV];split
   ·exact SB.nV keep r h
   ·obtain⟨oa,h1,a1⟩:=h.Bo i;obtain⟨kQ,h2,a2⟩:=SB.nV keep r h1;exact⟨kQ,h2,a1.trans a2⟩
theorem SB.BP (b:Nat):∀(n j:Nat) {φ:cZ} {s:St},SB X φ w B base s t->∃φ',SB X φ' w B base (BP b j n s) t/\eW φ w φ' w
 |0,j,φ,s,h=>⟨φ,h,.refl _ _⟩
 |n+1,j,φ,s,h=>by
   simp only[Go.Bm.BP];split
   ·obtain⟨oa,h1,a1⟩:=h.rel (.c b j);obtain⟨kQ,h2,a2⟩:=SB.BP b n (j+1) h1;exact⟨kQ,h2,a1.trans a2⟩
   ·exact SB.BP b n (j+1) h

theorem afY (he:∀i,get s'.env i=get s.env i) (hH:s'.H=s.H):at_ s'=at_ s:=by
 funext p;cases p<;>simp only[at_,he,hH]
theorem I5 (he:∀i,get s'.env i=get s.env i) (hH:s'.H=s.H):au s'=au s:=by
 funext p;unfold au;rw[afY he hH]
theorem er.ext (h:er X φ w N s Ha t) (he:∀i,get s'.env i=get s.env i) (hH:s'.H=s.H):er X φ w N s' Ha t:=by
 have ho:=I5 he hH;exact⟨fun i=>by rw[he]; exact h.env i,fun i=>by rw[he,ho,hH]; exact h.Ea i,h.heap,by rw[ho]; exact h.own,by rw[ho,hH]; exact h.box,by rw[ho]; exact h.inj,by rw[ho,hH]; exact h.bx,by rw[hH]; exact h.bi⟩
theorem dM {i:Nat} (h:bL (get s.env i)=false):au s (.s i)=none/\∀ j,au s (.sc i j)=none:=by
 have hl:∀(cs:List AV),bJ cs=false->∀(j:Nat) (k:Nat) (xs:List AV),cs[j]?≠some (.own k xs):=by
  intro cs
  induction cs with
  |nil=>intro _ j k xs e; simp at e
  |cons x r ih=>
    intro h j k xs e;cases j with
    |zero=>simp at e; subst e; simp[bJ] at h
    |succ j=>
      simp at e;refine ih ?_ j k xs e;cases x<;>simp[bJ] at h<;>exact h
 refine⟨?_,fun j=>?_⟩
 ·cases e:au s (.s i) with
  |none=>rfl
  |some y=>
    have e':=bY.1 (show au s (.s i)=some (y.1,y.2) from e);simp only[at_,af] at e';rw[e'] at h;simp[bL] at h
 ·cases e:au s (.sc i j) with
  |none=>rfl
  |some y=>
    have e':=bY.1 (show au s (.sc i j)=some (y.1,y.2) from e);simp only[at_] at e';split at e'
    ·rename_i cs dG;rw[dG] at h;simp only[bL] at h;exact absurd e' (hl cs h j _ _)
    ·cases e'
theorem er.keep (h:er X φ w N s Ha t) (he:∀i,get s'.env i=get s.env i\/(get s'.env i=.any/\bL (get s.env i)=false)) (hH:s'.H=s.H):er X φ w N s' Ha t:=by
 have ho:au s'=au s:=by
  funext p;cases p with
  |s i=>
    rcases he i with e|⟨e1,e2⟩
    ·unfold au; simp only[at_,e]
    ·rw[(dM e2).1]; unfold au; simp only[at_,e1]
  |sc i j=>
    rcases he i with e|⟨e1,e2⟩
    ·unfold au; simp only[at_,e]
    ·rw[(dM e2).2 j]; unfold au; simp only[at_,e1]
  |c b j=>unfold au; simp only[at_,hH]
 refine⟨fun i=>?_,fun i=>?_,h.heap,by rw[ho]; exact h.own,by rw[ho,hH]; exact h.box,by rw[ho]; exact h.inj,by rw[ho,hH]; exact h.bx,by rw[hH]; exact h.bi⟩
 ·rcases he i with e|⟨e1,e2⟩
  ·rw[e]; exact h.env i
  ·rw[e1]; exact .any _ _
 ·rcases he i with e|⟨e1,e2⟩
  ·rw[e,ho,hH]; exact h.Ea i
  ·rw[e1]; trivial
mutual
theorem Kn {o o':Rt->Option (Nat × List AV)} {n:Nat} (ho:∀p,(∀j,p≠.c n j)->o' p=o p):∀x,cB o (n+1) x->sy n x=true->cB o' n x
 |.dz k p off len,h,hp=>by
   simp only[cB] at h ⊢;rw[ho p]
   ·exact h
   ·rintro j rfl; simp[sy] at hp
 |.eV k p i off,h,hp=>by
   simp only[cB] at h ⊢;rw[ho p]
   ·exact h
   ·rintro j rfl; simp[sy] at hp
 |.ptr b off,h,hp=>by simp only[cB] at h ⊢; simp[sy] at hp; omega
 |.agg cs,h,hp=>by simp only[cB,sy] at h hp ⊢; exact wJ ho cs h hp
 |.dF cs,h,hp=>by simp only[cB,sy] at h hp ⊢; exact wJ ho cs h hp
 |.func f a b,h,hp=>by simp only[cB,sy,ae] at h hp ⊢; exact⟨wJ ho a h.1 hp.1,wJ ho b h.2.1 hp.2,h.2.2⟩
 |.any,_,_=>trivial
 |.undef,_,_=>trivial
 |.fo,_,_=>trivial
 |.fv,_,_=>trivial
 |.dp,_,_=>trivial
 |.int _ _,_,_=>trivial
 |.bool _,_,_=>trivial
 |.str _,_,_=>trivial
 |.list _ _,_,_=>trivial
 |.dh _,_,_=>trivial
 |.own _ _,_,_=>trivial
 |.sl _ b _ _,h,hp=>by simp only[cB] at h ⊢; simp[sy] at hp; omega
theorem wJ {o o':Rt->Option (Nat × List AV)} {n:Nat} (ho:∀p,(∀j,p≠.c n j)->o' p=o p):∀cs,jZ o (n+1) cs->jI n cs=true->jZ o' n cs
 |[],_,_=>trivial
 |x::r,h,hp=>by simp only[jZ,jI,ae] at h hp ⊢; exact⟨Kn ho x h.1 hp.1,wJ ho r h.2 hp.2⟩
end
theorem F9 {n:Nat}:∀{e:Env},BX n e=true->∀i,sy n (get e i)=true
 |[],_,i=>rfl
 |(j,v)::r,h,i=>by
   simp only[BX,ae] at h;simp only[Am.get];split
   ·exact h.1
   ·exact F9 h.2 i
theorem zA {n:Nat}:∀{H:Heap},wL n H=true->∀b cs,aJ H b=some cs->jI n cs=true
 |[],_,b,cs,hb=>by simp[aJ] at hb
 |none::r,h,b,cs,hb=>by
   simp only[wL] at h;cases b with
   |zero=>simp[aJ] at hb
   |succ b=>exact zA h b cs (by simpa[aJ] using hb)
 |some ds::r,h,b,cs,hb=>by
   simp only[wL,ae] at h;cases b with
   |zero=>simp[aJ] at hb; subst hb; exact h.1
   |succ b=>exact zA h.2 b cs (by simpa[aJ] using hb)
theorem F8 {n:Nat}:∀{cs:List AV},jI n cs=true->∀(j:Nat) (c:AV),cs[j]?=some c->sy n c=true
 |[],_,j,c,h=>by simp at h
 |x::r,hp,j,c,h=>by
   simp only[jI,ae] at hp;cases j with
   |zero=>simp at h; subst h; exact hp.1
   |succ j=>exact F8 hp.2 j c (by simpa using h)
theorem rR {H:Heap} {n b:Nat}:aJ (H.take n) b=if b<n then aJ H b else none:=by
 unfold aJ;rw[bE];by_cases h:b<n<;>simp[h]
theorem er.af8 {env:Env} {H:Heap} {n:Nat} (h:er X φ w N ⟨env,H⟩ Ha t) (hl:H.length=n+1) (he:BX n env=true) (hH:wL n (H.take n)=true):er X φ w N ⟨env,H.take n⟩ Ha t:=by
 have ho:∀p,(∀j,p≠.c n j)->au ⟨env,H.take n⟩ p=au ⟨env,H⟩ p:=by
  intro p hp;cases p with
  |s i=>rfl
  |sc i j=>rfl
  |c b j=>
    unfold au;simp only[at_,rR];by_cases hb:b<n
    ·rw[if_pos hb]
    ·rw[if_neg hb]
     have:aJ H b=none:=by
      cases e:aJ H b with
      |none=>rfl
      |some cs=>
        have:=dx e;simp only[hl] at this;exact absurd (by rw[show b=n by omega]) (hp j)
     rw[this]
 have hs:∀{p},(au ⟨env,H.take n⟩ p).isSome->(au ⟨env,H⟩ p).isSome:=by
  intro p hp;by_cases hc:∀j,p≠.c n j
  ·rwa [ho p hc] at hp
  ·exfalso;apply hc;rintro j rfl;unfold au at hp;simp[at_,rR] at hp
 have hlen:(H.take n).length=n:=by simp; omega
 have Be:∀{b},(aJ (H.take n) b).isSome->(aJ H b).isSome:=by
  intro b hb;rw[rR] at hb;split at hb
  ·exact hb
  ·cases hb
 refine⟨h.env,fun i=>?_,h.heap,fun p k xs e=>?_,fun b cs e=>?_,fun p q m e1 e2=>h.inj p q m (hs e1) (hs e2),fun b p e1 e2=>h.bx b p (Be e1) (hs e2),fun b c e1 e2=>h.bi b c (Be e1) (Be e2)⟩
 ·have:=h.Ea i;simp only[hl] at this;simp only[hlen];exact Kn ho _ this (F9 he i)
 ·refine h.own p k xs ?_;by_cases hc:∀j,p≠.c n j
  ·rwa [ho p hc] at e
  ·exfalso;apply hc;rintro j rfl;unfold au at e;simp[at_,rR] at e
 ·simp only[rR] at e;split at e
  ·obtain⟨as,g1,g2,g3⟩:=h.box b cs e;refine⟨as,g1,g2,fun j c hc=>?_⟩;obtain⟨k1,k2⟩:=g3 j c hc;refine⟨?_,k2⟩;simp only[hl] at k1;simp only[hlen];refine Kn ho _ k1 (F8 (zA hH b cs ?_) j c hc);rw[rR,if_pos ‹_›];exact e
  ·cases e
theorem er.trim {env:Env} {base0:Nat}:∀(n:Nat) {H:Heap},er X φ w N ⟨env,H⟩ Ha t->er X φ w N ⟨env,trim base0 env n H⟩ Ha t
 |0,H,h=>h
 |n+1,H,h=>by
   simp only[Go.Bm.trim];split
   ·rename_i hc;exact er.trim n (h.af8 hc.2.1 hc.2.2.1 hc.2.2.2)
   ·exact h
end
end Go.Bm

/- From the hand to a slot. -/
namespace Go.Bm
open Go.Am

mutual
theorem Xl {N N':Names} {m:Rt->Rt} {g:AV->AV} (ep:N'.β=N.β) (hg:∀k p a l,g (.dz k p a l)=.dz k (m p) a l/\g (.eV k p a l)=.eV k (m p) a l) :
  ∀ x,(∀p∈aK x,N'.ν (m p)=N.ν p)->cC N' (cD g x)=cC N x
 |.dz k p a l,h=>by simp only[cD,(hg k p a l).1,cC]; rw[h p (by simp[aK])]
 |.eV k p a l,h=>by simp only[cD,(hg k p a l).2,cC]; rw[h p (by simp[aK])]
 |.ptr b off,_=>by simp only[cD,cC,ep]
 |.agg cs,h=>by simp only[cD,cC]; rw[EF ep hg cs (fun p hp=>h p (by simpa[aK] using hp))]
 |.dF cs,h=>by simp only[cD,cC]; rw[EF ep hg cs (fun p hp=>h p (by simpa[aK] using hp))]
 |.func f a b,h=>by
   simp only[cD,cC];rw[EF ep hg a (fun p hp=>h p (by simp only[aK,aD]; exact .inl hp)),EF ep hg b (fun p hp=>h p (by simp only[aK,aD]; exact .inr hp))]
 |.any,_=>rfl
 |.undef,_=>rfl
 |.fo,_=>rfl
 |.fv,_=>rfl
 |.dp,_=>rfl
 |.int _ _,_=>rfl
 |.bool _,_=>rfl
 |.str _,_=>rfl
 |.list _ _,_=>rfl
 |.dh _,_=>rfl
 |.own _ _,_=>rfl
 |.sl _ b _ _,_=>by simp only[cD,cC,ep]
theorem EF {N N':Names} {m:Rt->Rt} {g:AV->AV} (ep:N'.β=N.β) (hg:∀k p a l,g (.dz k p a l)=.dz k (m p) a l/\g (.eV k p a l)=.eV k (m p) a l) :
  ∀ cs,(∀p∈cW cs,N'.ν (m p)=N.ν p)->kj N' (cO g cs)=kj N cs
 |[],_=>rfl
 |x::r,h=>by
   simp only[cO,kj];rw[Xl ep hg x (fun p hp=>h p (by simp only[cW,aD]; exact .inl hp)),EF ep hg r (fun p hp=>h p (by simp only[cW,aD]; exact .inr hp))]
end
mutual
theorem MP {o o':Rt->Option (Nat × List AV)} {nb:Nat} {m:Rt->Rt} {g:AV->AV} (hg:∀k p a l,g (.dz k p a l)=.dz k (m p) a l/\g (.eV k p a l)=.eV k (m p) a l) :
  ∀ x,(∀p∈aK x,o' (m p)=o p)->cB o nb x->cB o' nb (cD g x)
 |.dz k p a l,h,hk=>by simp only[cD,(hg k p a l).1,cB] at hk ⊢; rw[h p (by simp[aK])]; exact hk
 |.eV k p a l,h,hk=>by simp only[cD,(hg k p a l).2,cB] at hk ⊢; rw[h p (by simp[aK])]; exact hk
 |.ptr b off,_,hk=>hk
 |.agg cs,h,hk=>by simp only[cD,cB] at hk ⊢; exact F1 hg cs (fun p hp=>h p (by simpa[aK] using hp)) hk
 |.dF cs,h,hk=>by simp only[cD,cB] at hk ⊢; exact F1 hg cs (fun p hp=>h p (by simpa[aK] using hp)) hk
 |.func f a b,h,hk=>by
   simp only[cD,cB] at hk ⊢;exact⟨F1 hg a (fun p hp=>h p (by simp only[aK,aD]; exact .inl hp)) hk.1,F1 hg b (fun p hp=>h p (by simp only[aK,aD]; exact .inr hp)) hk.2.1,fun hy=>by obtain⟨rfl,c,rfl⟩:=hk.2.2 hy; exact⟨rfl,c,rfl⟩⟩
 |.any,_,_=>trivial
 |.undef,_,_=>trivial
 |.fo,_,_=>trivial
 |.fv,_,_=>trivial
 |.dp,_,_=>trivial
 |.int _ _,_,_=>trivial
 |.bool _,_,_=>trivial
 |.str _,_,_=>trivial
 |.list _ _,_,_=>trivial
 |.dh _,_,_=>trivial
 |.own _ _,_,_=>trivial
 |.sl _ _ _ _,_,h=>h
theorem F1 {o o':Rt->Option (Nat × List AV)} {nb:Nat} {m:Rt->Rt} {g:AV->AV} (hg:∀k p a l,g (.dz k p a l)=.dz k (m p) a l/\g (.eV k p a l)=.eV k (m p) a l) :
  ∀ cs,(∀p∈cW cs,o' (m p)=o p)->jZ o nb cs->jZ o' nb (cO g cs)
 |[],_,_=>trivial
 |x::r,h,hk=>by
   simp only[cO,jZ] at hk ⊢;exact⟨MP hg x (fun p hp=>h p (by simp only[cW,aD]; exact .inl hp)) hk.1,F1 hg r (fun p hp=>h p (by simp only[cW,aD]; exact .inr hp)) hk.2⟩
end
theorem kB {cs:List AV} {j:Nat} {c:AV} (h:cs[j]?=some c) {p:Rt} (hp:p∈aK c):p∈cW cs:=by
 induction cs generalizing j with
 |nil=>simp at h
 |cons x r ih=>
   simp only[cW,aD];cases j with
   |zero=>simp at h; subst h; exact .inl hp
   |succ j=>exact .inr (ih (by simpa using h))
theorem zg {N N':Names} {m:Rt->Rt} {g:AV->AV} (ep:N'.β=N.β) (hg:∀k p a l,g (.dz k p a l)=.dz k (m p) a l/\g (.eV k p a l)=.eV k (m p) a l) {r r':Rt} {x:AV} (hr:∀k xs,x=.own k xs->N'.ν r'=N.ν r) (hx:∀p∈aK x,N'.ν (m p)=N.ν p) :
  iJ N' r' (cD g x)=iJ N r x:=by
 have hL:jO g:=fun k p a l=>by rw[(hg k p a l).1,(hg k p a l).2]; exact⟨⟨(fun cs e=>by cases e),(fun k xs e=>by cases e)⟩,⟨(fun cs e=>by cases e),(fun k xs e=>by cases e)⟩⟩
 by_cases ho:∃k xs,x=.own k xs
 ·obtain⟨k,xs,rfl⟩:=ho;simp only[cD,iJ,rA,hr k xs rfl]
 ·obtain⟨e1,e2⟩:=J8 (N:=N) (N':=N') hL (r:=r) (x:=x) (fun k xs e=>ho ⟨k,xs,e⟩);obtain⟨_,e3⟩:=J8 (N:=N) (N':=N') hL (r:=r') (x:=x) (fun k xs e=>ho ⟨k,xs,e⟩);rw[e1,e3,Xl ep hg x hx]
theorem J7 {N N':Names} {m:Rt->Rt} {g:AV->AV} (ep:N'.β=N.β) (hg:∀k p a l,g (.dz k p a l)=.dz k (m p) a l/\g (.eV k p a l)=.eV k (m p) a l) {i i':Nat} {x:AV} (h1:N'.ν (.s i')=N.ν (.s i)) (h2:∀j,N'.ν (.sc i' j)=N.ν (.sc i j)) (hx:∀p∈aK x,N'.ν (m p)=N.ν p) :
  jY N' i' (cD g x)=jY N i x:=by
 have hL:jO g:=fun k p a l=>by rw[(hg k p a l).1,(hg k p a l).2]; exact⟨⟨(fun cs e=>by cases e),(fun k xs e=>by cases e)⟩,⟨(fun cs e=>by cases e),(fun k xs e=>by cases e)⟩⟩
 by_cases ha:∃cs,x=.agg cs
 ·obtain⟨cs,rfl⟩:=ha;simp only[cD,jY];congr 1;apply dy;intro j;rw[fE,fE,dY];simp only[fg];cases hc:cs[j]? with
  |none=>rfl
  |some c=>
    simp only[cj];rw[zg ep hg (r:=.sc i j) (fun _ _ _=>h2 j) (fun p hp=>hx p (by simp only[aK]; exact kB hc hp))]
 ·have hn:jd x:=fun cs e=>ha ⟨cs,e⟩;have Pc:jd (cD g x):=lx hL hn
  have e1:jY N' i' (cD g x)=iJ N' (.s i') (cD g x):=by
   generalize cD g x=y at Pc;cases y<;>first|rfl|exact absurd rfl (Pc _)
  have e2:jY N i x=iJ N (.s i) x:=by cases x<;>first|rfl|exact absurd rfl (hn _)
  rw[e1,e2];exact zg ep hg (fun _ _ _=>h1) hx
section
variable {X:Nat->Prop} {φ:cZ} {w:World} {N:Names} {s s':St} {Ha:Heap} {t t':Nat->Value} {B:Nat->Nat} {base:Nat}
theorem AZ (i d:Nat):∀k p a l,V7 i d (.dz k p a l)=.dz k (jc i d p) a l/\V7 i d (.eV k p a l)=.eV k (jc i d p) a l:=fun _ _ _ _=>⟨rfl,rfl⟩
theorem B0 {i d:Nat} {p:Rt} (h:bw d p=false):jc d i (jc i d p)=p:=by
 cases p with
 |s j=>
   simp only[bw,decide_eq_false_iff_not] at h;simp only[jc];by_cases e:j=i
   ·subst e; simp[jc]
   ·simp[e,jc,h]
 |sc j l=>
   simp only[bw,decide_eq_false_iff_not] at h;simp only[jc];by_cases e:j=i
   ·subst e; simp[jc]
   ·simp[e,jc,h]
 |c b j=>rfl
theorem MY {i d:Nat} {q:Rt} (h:bw i q=false):jc i d (jc d i q)=q:=B0 h
theorem er.hand {i d:Nat} (h:er X φ w N s Ha t) (hid:i≠d) (hC:∀r x,at_ s r=some x->∀p∈aK x,bw d p=false)
  (he:∀j,get s'.env j=if j=d then cD (V7 i d) (get s.env i) else if j=i then .any else cD (V7 i d) (get s.env j)) (hH:s'.H=fJ (V7 i d) s.H) (ht:∀j,j≠i->t' j=if j=d then t i else t j) :
  ∃ N',N'.β=N.β/\er X φ w N' s' Ha t':=by
 have hg:=AZ i d;have hL:=afn i d
 have atq:∀q,bw i q=false->at_ s' q=(at_ s (jc d i q)).map (cD (V7 i d)):=by
  intro q hq;rw[<-iS hL];cases q with
  |s j=>
    simp only[bw,decide_eq_false_iff_not] at hq;simp only[at_,he,jc,cm];by_cases e:j=d
    ·simp[e,df,at_]
    ·simp[e,hq,df,at_]
  |sc j l=>
    simp only[bw,decide_eq_false_iff_not] at hq;simp only[at_,he,jc,cm];by_cases e:j=d
    ·simp[e,df,at_]
    ·simp[e,hq,df,at_]
  |c b j=>simp only[at_,hH,jc,cm]
 have atn:∀q,bw i q=true->au s' q=none:=by
  intro q hq;cases q with
  |s j=>simp only[bw,decide_eq_true_eq] at hq; subst hq; unfold au; simp[at_,he,hid]
  |sc j l=>simp only[bw,decide_eq_true_eq] at hq; subst hq; unfold au; simp[at_,he,hid]
  |c b j=>simp[bw] at hq
 have own:∀q,bw i q=false->au s' q=au s (jc d i q):=by
  intro q hq;rw[<-gO hL s (jc d i q)];exact Kl (by rw[atq q hq,iS hL])
 have VY:∀p,bw d p=false->au s' (jc i d p)=au s p:=by
  intro p hp
  have hi:bw i (jc i d p)=false:=by
   cases p with
   |s j=>simp only[jc]; split<;>simp_all [bw]; exact fun e=>hid e.symm
   |sc j l=>simp only[jc]; split<;>simp_all [bw]; exact fun e=>hid e.symm
   |c b j=>rfl
  rw[own _ hi,B0 hp]
 have hlen:s'.H.length=s.H.length:=by rw[hH,fj]
 obtain⟨N',ep,hN⟩:∃N':Names,N'.β=N.β/\∀ q,N'.ν q=N.ν (jc d i q):=⟨⟨N.β,fun q=>N.ν (jc d i q)⟩,rfl,fun _=>rfl⟩;have kL:∀p,bw d p=false->N'.ν (jc i d p)=N.ν p:=fun p hp=>by rw[hN,B0 hp]
 refine⟨N',ep,⟨fun j=>?_,fun j=>?_,h.heap,fun p k xs e=>?_,fun b cs e=>?_,fun p q n e1 e2 e3 e4=>?_,fun b p e1 e2 e3=>?_,fun b c e1 e2 e3=>?_⟩⟩
 ·rw[he];by_cases Wn:j=d
  ·subst Wn;rw[if_pos rfl,ht j (tQ hid),if_pos rfl];rw[J7 (N:=N) (i:=i) ep hg (by simp[hN,jc]) (fun l=>by simp[hN,jc]) (fun p hp=>kL p (hC (.s i) _ rfl p hp))];exact h.env i
  ·rw[if_neg Wn];by_cases HX:j=i
   ·rw[if_pos HX]; exact .any _ _
   ·rw[if_neg HX,ht j HX,if_neg Wn];rw[J7 (N:=N) (i:=j) ep hg (by simp[hN,jc,Wn]) (fun l=>by simp[hN,jc,Wn]) (fun p hp=>kL p (hC (.s j) _ rfl p hp))];exact h.env j
 ·rw[he,hlen];by_cases Wn:j=d
  ·rw[if_pos Wn];exact MP hg _ (fun p hp=>VY p (hC (.s i) _ rfl p hp)) (h.Ea i)
  ·rw[if_neg Wn];by_cases HX:j=i
   ·rw[if_pos HX]; trivial
   ·rw[if_neg HX];exact MP hg _ (fun p hp=>VY p (hC (.s j) _ rfl p hp)) (h.Ea j)
 ·cases hq:bw i p with
  |true=>rw[atn p hq] at e; cases e
  |false=>rw[own p hq] at e; rw[hN]; exact h.own _ k xs e
 ·rw[hH,fe] at e;cases hb:aJ s.H b with
  |none=>rw[hb] at e; cases e
  |some ds=>
    rw[hb] at e;simp at e;subst e;obtain⟨as,g1,g2,g3⟩:=h.box b ds hb;refine⟨as,by rw[ep]; exact g1,by rw[cv]; exact g2,fun j c hc=>?_⟩;rw[dY] at hc;cases hd:ds[j]? with
    |none=>rw[hd] at hc; cases hc
    |some c0=>
      rw[hd] at hc;simp at hc;subst hc;have hcc:=fun p hp=>hC (.c b j) c0 (by rw[xh hb]; exact hd) p hp;obtain⟨k1,a,k2,k3⟩:=g3 j c0 hd;refine⟨by rw[hlen]; exact MP hg _ (fun p hp=>VY p (hcc p hp)) k1,a,k2,?_⟩;rw[zg (N:=N) (r:=.c b j) ep hg (fun _ _ _=>by rw[hN]; rfl) (fun p hp=>kL p (hcc p hp))];exact k3
 ·have hp:bw i p=false:=by
   cases hq:bw i p with
   |true=>rw[atn p hq] at e1; cases e1
   |false=>rfl
  have hq:bw i q=false:=by
   cases hq:bw i q with
   |true=>rw[atn q hq] at e2; cases e2
   |false=>rfl
  rw[own p hp] at e1;rw[own q hq] at e2;rw[hN] at e3 e4;have:=h.inj _ _ n e1 e2 e3 e4;rw[<-MY (d:=d) hp,this,MY hq]
 ·have hp:bw i p=false:=by
   cases hq:bw i p with
   |true=>rw[atn p hq] at e2; cases e2
   |false=>rfl
  rw[own p hp] at e2;rw[hN,ep] at e3;refine h.bx b _ ?_ e2 e3;rw[hH,fe] at e1;cases hb:aJ s.H b with
  |none=>rw[hb] at e1; cases e1
  |some _=>rfl
 ·have sb:∀{b},(aJ s'.H b).isSome->(aJ s.H b).isSome:=by
   intro b hb;rw[hH,fe] at hb;cases e:aJ s.H b with
   |none=>rw[e] at hb; cases hb
   |some _=>rfl
  rw[ep] at e3;exact h.bi b c (sb e1) (sb e2) e3
end
end Go.Bm

/- A value goes to its slot. -/
namespace Go.Bm
open Go.Am
mutual
theorem BW {o:Rt->Option (Nat × List AV)} {nb:Nat}:∀x,cB o nb x->∀p∈aK x,(o p).isSome
 |.dz k q a l,h,p,hp=>by simp only[aK,cE] at hp; subst hp; simp only[cB] at h; obtain⟨xs,e,_⟩:=h; rw[e]; rfl
 |.eV k q a l,h,p,hp=>by simp only[aK,cE] at hp; subst hp; simp only[cB] at h; obtain⟨xs,e,_⟩:=h; rw[e]; rfl
 |.agg cs,h,p,hp=>by simp only[cB,aK] at h hp; exact AL cs h p hp
 |.dF cs,h,p,hp=>by simp only[cB,aK] at h hp; exact AL cs h p hp
 |.func f a b,h,p,hp=>by
   simp only[cB,aK,aD] at h hp;rcases hp with hp|hp
   ·exact AL a h.1 p hp
   ·exact AL b h.2.1 p hp
 |.any,_,p,hp=>by simp[aK] at hp
 |.undef,_,p,hp=>by simp[aK] at hp
 |.fo,_,p,hp=>by simp[aK] at hp
 |.fv,_,p,hp=>by simp[aK] at hp
 |.dp,_,p,hp=>by simp[aK] at hp
 |.int _ _,_,p,hp=>by simp[aK] at hp
 |.bool _,_,p,hp=>by simp[aK] at hp
 |.str _,_,p,hp=>by simp[aK] at hp
 |.list _ _,_,p,hp=>by simp[aK] at hp
 |.dh _,_,p,hp=>by simp[aK] at hp
 |.own _ _,_,p,hp=>by simp[aK] at hp
 |.ptr _ _,_,p,hp=>by simp[aK] at hp
 |.sl _ _ _ _,_,p,hp=>by simp[aK] at hp
theorem AL {o:Rt->Option (Nat × List AV)} {nb:Nat}:∀cs,jZ o nb cs->∀p∈cW cs,(o p).isSome
 |[],_,p,hp=>by simp[cW] at hp
 |x::r,h,p,hp=>by
   simp only[jZ,cW,aD] at h hp;rcases hp with hp|hp
   ·exact BW x h.1 p hp
   ·exact AL r h.2 p hp
end
mutual
theorem sA {g:AV->AV} {m:Rt->Rt} (hg:∀k p a l,g (.dz k p a l)=.dz k (m p) a l/\g (.eV k p a l)=.eV k (m p) a l):∀x,(∀p∈aK x,m p=p)->cD g x=x
 |.dz k p a l,h=>by simp only[cD,(hg k p a l).1]; rw[h p (by simp[aK])]
 |.eV k p a l,h=>by simp only[cD,(hg k p a l).2]; rw[h p (by simp[aK])]
 |.agg cs,h=>by simp only[cD]; rw[rE hg cs (fun p hp=>h p (by simpa[aK] using hp))]
 |.dF cs,h=>by simp only[cD]; rw[rE hg cs (fun p hp=>h p (by simpa[aK] using hp))]
 |.func f a b,h=>by
   simp only[cD];rw[rE hg a (fun p hp=>h p (by simp only[aK,aD]; exact .inl hp)),rE hg b (fun p hp=>h p (by simp only[aK,aD]; exact .inr hp))]
 |.any,_=>rfl
 |.undef,_=>rfl
 |.fo,_=>rfl
 |.fv,_=>rfl
 |.dp,_=>rfl
 |.int _ _,_=>rfl
 |.bool _,_=>rfl
 |.str _,_=>rfl
 |.list _ _,_=>rfl
 |.dh _,_=>rfl
 |.own _ _,_=>rfl
 |.ptr _ _,_=>rfl
 |.sl _ _ _ _,_=>rfl
theorem rE {g:AV->AV} {m:Rt->Rt} (hg:∀k p a l,g (.dz k p a l)=.dz k (m p) a l/\g (.eV k p a l)=.eV k (m p) a l):∀cs,(∀p∈cW cs,m p=p)->cO g cs=cs
 |[],_=>rfl
 |x::r,h=>by
   simp only[cO];rw[sA hg x (fun p hp=>h p (by simp only[cW,aD]; exact .inl hp)),rE hg r (fun p hp=>h p (by simp only[cW,aD]; exact .inr hp))]
end
theorem Eg {g:AV->AV} {m:Rt->Rt} (hg:∀k p a l,g (.dz k p a l)=.dz k (m p) a l/\g (.eV k p a l)=.eV k (m p) a l):∀H:Heap,(∀b cs,aJ H b=some cs->∀p∈cW cs,m p=p)->fJ g H=H
 |[],_=>rfl
 |none::r,h=>by simp only[fJ]; rw[Eg hg r (fun b cs hb=>h (b+1) cs (by simpa[aJ] using hb))]
 |some cs::r,h=>by simp only[fJ]; rw[Eg hg r (fun b ds hb=>h (b+1) ds (by simpa[aJ] using hb)),rE hg cs (h 0 cs rfl)]
theorem jN {f:Rt->Bool}:∀{l:List Rt},xk f l=false->∀p∈l,f p=false
 |[],_,p,hp=>by simp at hp
 |q::r,h,p,hp=>by
   simp only[xk,eC] at h;rcases aO.1 hp with e|e
   ·subst e; exact h.1
   ·exact jN h.2 p e
theorem rT {f:Rt->Bool}:∀{e:Env},Hj f e=false->∀i,∀p∈aK (get e i),f p=false
 |[],_,i,p,hp=>by simp[Am.get,aK] at hp
 |(j,v)::r,h,i,p,hp=>by
   simp only[Hj,eC] at h;simp only[Am.get] at hp;split at hp
   ·exact jN h.1 p hp
   ·exact rT h.2 i p hp
theorem ux {f:Rt->Bool}:∀{H:Heap},Hh f H=false->∀b cs,aJ H b=some cs->∀p∈cW cs,f p=false
 |[],_,b,cs,hb,p,hp=>by simp[aJ] at hb
 |none::r,h,b,cs,hb,p,hp=>by
   simp only[Hh] at h;cases b with
   |zero=>simp[aJ] at hb
   |succ b=>exact ux h b cs (by simpa[aJ] using hb) p hp
 |some ds::r,h,b,cs,hb,p,hp=>by
   simp only[Hh,eC] at h;cases b with
   |zero=>simp[aJ] at hb; subst hb; exact jN h.1 p hp
   |succ b=>exact ux h.2 b cs (by simpa[aJ] using hb) p hp
theorem Lb {cs:List AV} {p:Rt} (hp:p∈cW cs):∃(j:Nat) (c:AV),cs[j]?=some c/\p∈aK c:=by
 induction cs with
 |nil=>simp[cW] at hp
 |cons x r ih=>
   simp only[cW,aD] at hp;rcases hp with hp|hp
   ·exact⟨0,x,rfl,hp⟩
   ·obtain⟨j,c,h1,h2⟩:=ih hp;exact⟨j+1,c,by simpa using h1,h2⟩
theorem Jq:∀(e:Env) (l:List Nat),∃i,Am.get e i=.any/\i∉l:=by
 have key:∀e:Env,∃n,∀i,n<=i->Am.get e i=.any:=by
  intro e
  induction e with
  |nil=>exact⟨0,fun i _=>rfl⟩
  |cons p r ih=>
    obtain⟨j,v⟩:=p;obtain⟨n,hn⟩:=ih;refine⟨max n (j+1),fun i hi=>?_⟩;simp only[Am.get];rw[if_neg (by omega)];exact hn i (by omega)
 intro e l;obtain⟨n,hn⟩:=key e
 have:∃m,∀x∈l,x<m:=by
  induction l with
  |nil=>exact⟨0,fun x hx=>by simp at hx⟩
  |cons y r ih=>
    obtain⟨m,hm⟩:=ih;refine⟨max m (y+1),fun x hx=>?_⟩;rcases aO.1 hx with e|e
    ·omega
    ·have:=hm x e; omega
 obtain⟨m,hm⟩:=this;exact⟨max n m,hn _ (by omega),fun h=>by have:=hm _ h; omega⟩
section
variable {X:Nat->Prop} {φ:cZ} {w:World} {s s':St} {t t':Nat->Value} {B:Nat->Nat} {base:Nat} {v:AV} {v':Value}
structure dQ (X:Nat->Prop) (φ:cZ) (w:World) (B:Nat->Nat) (base:Nat) (s:St) (v:AV) (t:Nat->Value) (v':Value):Prop where
 st:SB X φ w B base s t
 ok:cB (au s) s.H.length v
 put:∀i,get s.env i=.any->SB X φ w B base ⟨put s.env i v,s.H⟩ (fun j=>if j=i then v' else t j)
theorem Lh {r:Rt} {x:AV} (h:SB X φ w B base s t) (hx:at_ s r=some x):∀p∈aK x,(au s p).isSome:=by
 obtain⟨N,Ha,h,_⟩:=h;exact BW x (h.AM hx)
theorem acz {b:Nat} {cs:List AV} (h:SB X φ w B base s t) (hb:aJ s.H b=some cs):∀p∈cW cs,(au s p).isSome:=by
 intro p hp;obtain⟨j,c,h1,h2⟩:=Lb hp;exact Lh h (r:=.c b j) (by rw[xh hb]; exact h1) p h2
theorem abr {i d:Nat} {p:Rt} (h:bw i p=false):jc i d p=p:=by
 cases p with
 |s j=>simp only[bw,decide_eq_false_iff_not] at h; simp[jc,h]
 |sc j l=>simp only[bw,decide_eq_false_iff_not] at h; simp[jc,h]
 |c b j=>rfl
theorem uw {i:Nat} {p:Rt} (hi:bL (get s.env i)=false) (hp:(au s p).isSome):bw i p=false:=by
 obtain⟨h1,h2⟩:=dM hi;cases p with
 |s j=>
   simp only[bw,decide_eq_false_iff_not];rintro rfl;rw[h1] at hp; cases hp
 |sc j l=>
   simp only[bw,decide_eq_false_iff_not];rintro rfl;rw[h2] at hp; cases hp
 |c b j=>rfl
theorem SB.hand {i d:Nat} (h:SB X φ w B base s t) (hid:i≠d) (hC:∀r x,at_ s r=some x->∀p∈aK x,bw d p=false)
  (he:∀j,get s'.env j=if j=d then cD (V7 i d) (get s.env i) else if j=i then .any else cD (V7 i d) (get s.env j)) (hH:s'.H=fJ (V7 i d) s.H) (ht:∀j,j≠i->t' j=if j=d then t i else t j):SB X φ w B base s' t':=by
 obtain⟨N,Ha,h,hb,hl⟩:=h;obtain⟨N',e,h'⟩:=h.hand hid hC he hH ht;exact⟨N',Ha,h',fun b bQ=>by rw[e]; exact hb b bQ,by rw[hH,fj]; exact hl⟩
theorem aeB (h:dQ X φ w B base s v t v') {d:Nat} (hp:VT s d v=some s') (hd:d≠eY) (ht:∀j,t' j=if j=d then v' else t j):∃φ',SB X φ' w B base s' t'/\eW φ w φ' w:=by
 unfold VT at hp;split at hp
 ·split at hp
  case h_2=>cases hp
  rename_i H5;split at hp
  ·cases hp
  rename_i ho;simp at hp;subst hp;obtain⟨oa,h1,a1⟩:=(h.put eY H5).Bo d;refine⟨oa,h1.hand (i:=eY) (d:=d) (tQ hd) (fun r x hx p hp=>uw (by simpa using ho) (Lh h1 hx p hp)) (fun j=>?_) ?_ (fun j hj=>?_),a1⟩
  ·simp only[KU,bD,cm,df]
  ·simp only[KU,cm]
  ·rw[ht,if_pos rfl,if_neg hj]
 ·rename_i hs;simp at hp;subst hp;obtain⟨i,hi,hid⟩:=Jq s.env [d];have hid':i≠d:=fun e=>hid (by simp[e]);have hio:bL (get s.env i)=false:=by rw[hi]; rfl
  have HE:=h.put i hi;have MX:∀{p},(au s p).isSome->jc i d p=p:=fun hp=>abr (uw hio hp);refine⟨φ,HE.hand (i:=i) (d:=d) hid' (fun r x hx p hp=>?_) (fun j=>?_) ?_ (fun j hj=>?_),.refl _ _⟩
  ·simp only[LX,ae,not_and,Bool.not_eq_true] at hs;cases hod:bL (get s.env d) with
   |false=>
     refine uw (s:=⟨put s.env i v,s.H⟩) (i:=d) ?_ (Lh HE hx p hp);simp only[bD];rw[if_neg (tQ hid')];exact hod
   |true=>
     have hn:=hs hod;simp only[Hk,eC] at hn;cases r with
     |s j=>
       simp only[at_,bD,af] at hx;subst hx;split at hp
       ·exact jN hn.1 p hp
       ·exact rT hn.2.1 j p hp
     |sc j l=>
       simp only[at_,bD] at hx;split at hx
       ·rename_i cs dG;split at dG
        ·subst dG;exact jN hn.1 p (by simp only[aK]; exact kB hx hp)
        ·exact rT hn.2.1 j p (by rw[dG]; simp only[aK]; exact kB hx hp)
       ·cases hx
     |c b l=>
       simp only[at_] at hx;split at hx
       ·rename_i cs dG;exact ux hn.2.2 b cs dG p (kB hx hp)
       ·cases hx
  ·simp only[bD];by_cases Wn:j=d
   ·rw[if_pos Wn,if_pos Wn,if_pos trivial,sA (AZ i d) v (fun p hp=>MX (BW v h.ok p hp))]
   ·rw[if_neg Wn,if_neg Wn];by_cases HX:j=i
    ·rw[if_pos HX,HX]; exact hi
    ·rw[if_neg HX,if_neg HX,sA (AZ i d) _ (fun p hp=>MX (Lh h.st (r:=.s j) rfl p hp))]
  ·exact (Eg (AZ i d) s.H (fun b cs hb p hp=>MX (acz h.st hb p hp))).symm
  ·rw[ht,if_pos rfl,if_neg hj]
theorem aaZ (h:dQ X φ w B base s v t v') {d:Option Nat} (hp:yT s d v=some s') (hd:d≠some eY) (ht:∀j,t' j=if some j=d then v' else t j):∃φ',SB X φ' w B base s' t'/\eW φ w φ' w:=by
 cases d with
 |none=>
   simp[yT] at hp;subst hp;refine⟨φ,?_,.refl _ _⟩;obtain⟨N,Ha,h1,hb⟩:=h.st;have:t'=t:=by funext j; rw[ht,if_neg (by simp)]
   rw[this];exact⟨N,Ha,h1,hb⟩
 |some d=>exact aeB h (by simpa[yT] using hp) (fun e=>hd (by rw[e])) (fun j=>by rw[ht]; simp)
end
end Go.Bm

/- Operations that change nothing, in both machines. -/
namespace Go.Bm
open Go.Am

def zO:AV->Bool
 |.bool _|.int _ _|.dp|.fo|.fv|.undef|.str _=>true
 |_=>false
def mW:List AV->Bool
 |[]=>true
 |x::r=>zO x&&mW r
def Zp:AV->Bool
 |.agg cs=>mW cs
 |.func f [] []=>!An f
 |x=>zO x
theorem UG {v:Value} {x:AV} (h:GZ v x=true):zO x=true:=by
 unfold GZ at h;split at h<;>first|rfl|cases h
theorem K7:∀{vs:List Value} {xs:List AV},rL vs xs=true->mW xs=true
 |[],[],_=>rfl
 |[],_::_,h=>by simp[rL] at h
 |_::_,[],h=>by simp[rL] at h
 |v::r,x::s,h=>by
   simp only[rL,ae] at h;simp only[mW,ae];exact⟨UG h.1,K7 h.2⟩
theorem A9 {x:AV} (h:zO x=true):Zp x=true:=by cases x<;>first|(simp[zO] at h; done)|rfl|exact h
theorem afO {o:Operand} {a:AV} (h:cM o (.k a)=true):Zp a=true:=by
 unfold cM at h;split at h
 ·rename_i hk; cases hk
 ·rename_i v x hk;cases hk;unfold chkV at h;split at h
  ·exact K7 h
  ·exact A9 (UG h)
 ·rename_i f g hk; cases hk; rfl
 ·rename_i hk; cases hk
 ·cases h
theorem Xo (N:Names) {x:AV} (h:zO x=true):cC N x=x:=by cases x<;>first|rfl|simp[zO] at h
theorem Xn (N:Names):∀{xs:List AV},mW xs=true->kj N xs=xs
 |[],_=>rfl
 |x::r,h=>by
   simp only[mW,ae] at h;simp only[kj];rw[Xo N h.1,Xn N h.2]
theorem tr_c (N:Names) {x:AV} (h:Zp x=true):cC N x=x:=by
 unfold Zp at h;split at h
 ·simp only[cC]; rw[Xn N h]
 ·rfl
 ·exact Xo N h
theorem dn_c {x:AV} (h:Zp (dnV x)=true):(∃k,x=.own k []/\dnV x=.dp)\/(Zp x=true/\dnV x=x):=by
 unfold dnV at h ⊢;split
 ·exact .inl ⟨_,rfl,rfl⟩
 ·rename_i hn;split at h
  ·rename_i k; exact absurd rfl (hn k)
  ·exact .inr ⟨h,rfl⟩

def fV (N:Names):AV->AV
 |.own _ _=>.dp
 |x=>cC N x
def gM (N:Names):List AV->List AV
 |[]=>[]
 |x::r=>fV N x::gM N r
def vZ (N:Names):AV->AV
 |.own _ _=>.dp
 |.agg cs=>.agg (gM N cs)
 |x=>cC N x
def EO:AV->Prop
 |.own _ xs=>xs=[]
 |.agg cs=>∀(j k:Nat) (xs:List AV),cs[j]?=some (.own k xs)->xs=[]
 |_=>True
theorem od (N:Names):∀(cs:List AV) (i:Nat),(gM N cs)[i]?=(cs[i]?).map (fV N)
 |[],i=>by simp[gM]
 |x::r,i=>by cases i<;>simp[gM,od N r]
theorem iw (N:Names):∀cs:List AV,(gM N cs).length=cs.length
 |[]=>rfl
 |x::r=>by simp[gM,iw N r]
theorem kh (N:Names):∀{cs:List AV},bJ cs=false->gM N cs=kj N cs
 |[],_=>rfl
 |x::r,h=>by
   simp only[gM,kj];cases x<;>simp[bJ] at h<;>rw[kh N h]<;>rfl
theorem kI (N:Names) {x:AV} (h:bL x=false):vZ N x=cC N x:=by
 cases x<;>first|rfl|(simp[bL] at h; done)|skip
 rename_i cs;simp only[bL] at h;simp only[vZ,cC];rw[kh N h]
theorem aaM (N:Names) {x:AV} (h:∀cs,x=.agg cs->bJ cs=false):fV N x=vZ N x:=by
 cases x<;>first|rfl|skip
 rename_i cs;simp only[fV,cC,vZ];rw[kh N (h cs rfl)]
theorem Jh (f:Nat->Rt):∀(cs:List AV) (j:Nat),bJ (eF f j cs)=false
 |[],j=>rfl
 |x::r,j=>by
   have ih:=Jh f r (j+1);cases x<;>simp[eF,bJ,ih]
theorem Nh (i:Nat) (v:AV):bL (eT i v)=false:=by
 cases v<;>simp[eT,bL]
 exact Jh _ _ _
theorem Cb (f:Nat->Rt):∀(cs:List AV) (j i:Nat),(eF f j cs)[i]?=(cs[i]?).map (fun x=>match x with
  |.own k xs=>.dz k (f (j+i)) 0 xs.length
  |x=>x)
 |[],j,i=>by simp[eF]
 |x::r,j,i=>by
   cases i with
   |zero=>cases x<;>simp[eF]
   |succ i=>
     have ih:=Cb f r (j+1) i;rw[show j+1+i=j+(i+1) by omega] at ih;cases x<;>simp[eF,ih]
theorem EG (N:Names) (f:Nat->Rt):∀(cs:List AV) (j:Nat),kj N (eF f j cs)=PF N f j cs
 |[],j=>rfl
 |x::r,j=>by
   have ih:=EG N f r (j+1);cases x<;>simp[eF,kj,PF,iJ,ih]
   simp only[cC,rA,s8]
theorem RD (N:Names) (i:Nat) (v:AV):cC N (eT i v)=jY N i v:=by
 cases v<;>first|rfl|skip
 ·simp only[eT,cC,jY]; rw[EG]
 ·simp only[eT,cC,jY,iJ,rA,s8]
section
variable {X:Nat->Prop} {φ:cZ} {w:World} {N:Names} {s:St} {Ha:Heap} {t:Nat->Value} {c:dO} {cA:Am.dO}
theorem adL {o:Rt->Option (Nat × List AV)} {nb:Nat} {x:AV} (h:zO x=true):cB o nb x:=by cases x<;>first|trivial|simp[zO] at h
theorem YB {o:Rt->Option (Nat × List AV)} {nb:Nat}:∀{xs:List AV},mW xs=true->jZ o nb xs
 |[],_=>trivial
 |x::r,h=>by simp only[mW,ae] at h; exact⟨adL h.1,YB h.2⟩
theorem ok_c {o:Rt->Option (Nat × List AV)} {nb:Nat} {x:AV} (h:Zp x=true):cB o nb x:=by
 unfold Zp at h;split at h
 ·exact YB h
 ·exact⟨trivial,trivial,fun hy=>by rw[hy] at h; cases h⟩
 ·exact adL h
theorem Ce:∀{xs:List AV},mW xs=true->bJ xs=false
 |[],_=>rfl
 |x::r,h=>by
   simp only[mW,ae] at h;have:=Ce h.2;cases x<;>first|(simp[zO] at h; done)|simpa[bJ] using this
theorem abI {x:AV} (h:Zp x=true):bL x=false:=by
 unfold Zp at h;split at h
 ·exact Ce h
 ·rfl
 ·rename_i h1 h2;cases x<;>first|rfl|(simp[zO] at h; done)
theorem TA (h:er X φ w N s Ha t) (i:Nat):cB (au s) s.H.length (eT i (get s.env i)):=by
 have hk:=h.Ea i;have vU:at_ s (.s i)=some (get s.env i):=rfl;cases hv:get s.env i<;>rw[hv] at hk vU<;>try exact hk
 ·rename_i cs;simp only[eT,cB] at hk ⊢;refine fO.2 fun j c hc=>?_;rw[Cb] at hc;cases hd:cs[j]? with
  |none=>rw[hd] at hc; cases hc
  |some d=>
    rw[hd] at hc;simp only[cj,af,fg] at hc;subst hc;have hdk:=fO.1 hk j d hd;split
    ·rename_i k xs;simp only[cB];exact⟨xs,bY.2 (by rw[Hf hv]; exact hd),by omega⟩
    ·exact hdk
 ·rename_i k xs;simp only[eT,cB];exact⟨xs,bY.2 vU,by omega⟩
structure qK (N:Names) (s:St) (c:dO) (cA:Am.dO) (x:E):Prop where
 ev:Am.ev cA (Al N s.env) (kN x)=fV N (aY c s.env x)
 ok:cB (au s) s.H.length (aY c s.env x)
 eo:∀k xs,aY c s.env x=.own k xs->xs=[]
 na:∀cs,aY c s.env x=.agg cs->bJ cs=false
theorem cq (h:er X φ w N s Ha t) (r9:cA.gl=c.gl) {o:Operand} {x:E} (hk:cM o (kN x)=true):qK N s c cA x:=by
 cases x with
 |t i=>
   have hl:=Nh i (get s.env i);refine⟨?_,TA h i,fun k xs e=>?_,fun cs e=>?_⟩
   ·simp only[kN,Am.ev,aY,mE];rw[<-RD];generalize eT i (get s.env i)=y at hl;cases y<;>first|rfl|simp[bL] at hl
   ·simp only[aY] at e; rw[e] at hl; simp[bL] at hl
   ·simp only[aY] at e; rw[e] at hl; exact hl
 |k a=>
   simp only[kN] at hk;rcases dn_c (afO hk) with⟨k,rfl,e⟩|⟨hc,e⟩
   ·exact⟨rfl,trivial,fun k' xs e=>by simp only[aY,AV.own.injEq] at e; exact e.2.symm,fun cs e=>by simp[aY] at e⟩
   ·refine⟨?_,ok_c hc,fun k xs e'=>?_,fun cs e'=>?_⟩
    ·simp only[kN,Am.ev,aY,e];have:=tr_c N hc;have hn:=abI hc;cases a<;>first|exact this.symm|(simp[bL] at hn; done)
    ·simp only[aY] at e'; rw[e'] at hc; simp[Zp,zO] at hc
    ·simp only[aY] at e'; rw[e'] at hc; exact Ce hc
 |g i=>exact⟨by simp[kN,Am.ev,aY,fV,cC,r9],trivial,fun k xs e=>by simp[aY] at e,fun cs e=>by simp[aY] at e⟩
theorem qK.int {x:E} (h:qK N s c cA x) {k:IntKind} {n:Int} (e:aY c s.env x=.int k n):Am.ev cA (Al N s.env) (kN x)=.int k n:=by rw[h.ev,e]; rfl
theorem qK.bool {x:E} (h:qK N s c cA x) {b:Bool} (e:aY c s.env x=.bool b):Am.ev cA (Al N s.env) (kN x)=.bool b:=by rw[h.ev,e]; rfl
theorem tt (h:er X φ w N s Ha t) (r9:cA.gl=c.gl):∀{os:List Operand} {xs:List E},iz os (Cx xs)=true->Am.En cA (Al N s.env) (Cx xs)=gM N (dv c s.env xs)/\jZ (au s) s.H.length (dv c s.env xs)
 |_,[],_=>⟨rfl,trivial⟩
 |[],x::r,hk=>by simp[Cx,iz] at hk
 |o::os,x::r,hk=>by
   simp only[Cx,iz,ae] at hk;obtain⟨h1,h2⟩:=tt h r9 hk.2;have h3:=cq (c:=c) h r9 hk.1;exact⟨by simp only[Cx,Am.En,dv,gM,h1,h3.ev],h3.ok,h2⟩
theorem sZ (h:er X φ w N s Ha t) {k:Nat} {p:Rt} {off len:Nat} (ho:cB (au s) s.H.length (.dz k p off len)) :
  (∃n,N.ν p=some n/\cC N (.dz k p off len)=.sl k n (off*k) len)\/(N.ν p=none/\off=0/\len=0/\cC N (.dz k p off len)=.dp):=by
 simp only[cB] at ho;obtain⟨xs,h1,h2⟩:=ho;cases kL:N.ν p with
 |some n=>exact .inl ⟨n,rfl,by simp[cC,kL]⟩
 |none=>
   have:=h.own p k xs h1;rw[kL] at this;have hx:xs=[]:=this;subst hx;simp at h2;exact .inr ⟨rfl,h2.1,h2.2,by simp[cC,kL]⟩
theorem FN (h:er X φ w N s Ha t) {k:Nat} {p:Rt} {i off:Nat} (ho:cB (au s) s.H.length (.eV k p i off)):∃n,N.ν p=some n/\cC N (.eV k p i off)=.ptr n (i*k+off):=by
 simp only[cB] at ho;obtain⟨xs,h1,h2⟩:=ho;cases kL:N.ν p with
 |some n=>exact⟨n,rfl,by simp[cC,kL]⟩
 |none=>
   have:=h.own p k xs h1;rw[kL] at this;have hx:xs=[]:=this;subst hx;simp at h2
end
end Go.Bm

/- Operations that change nothing: the older machine does the same. -/
namespace Go.Bm
open Go.Am
section
variable {P:Program}
theorem afK {op:Op} {y:E} (h:cK P op (.mv y)=true):∃x,cM x y=true:=by
 unfold cK at h; split at h<;>simp_all<;>exact⟨_,h⟩
theorem aaj {op:Op} {a b d:E} (h:cK P op (.pick a b d)=true):(∃x,cM x a=true)/\(∃x,cM x b=true)/\∃ x,cM x d=true:=by
 unfold cK at h; split at h<;>simp_all; exact⟨⟨_,h.1.1⟩,⟨_,h.1.2⟩,⟨_,h.2⟩⟩
theorem acr {op:Op} {y:E} (h:cK P op (.box y)=true):∃x,cM x y=true:=by
 unfold cK at h; split at h<;>simp_all; exact⟨_,h⟩
theorem WM {op:Op} {y:E} (h:cK P op (.mB y)=true):∃x,cM x y=true:=by
 unfold cK at h; split at h<;>simp_all; exact⟨_,h⟩
theorem acs {op:Op} {bo:BinOp} {a b:E} (h:cK P op (.bin bo a b)=true):(∃x,cM x a=true)/\∃ x,cM x b=true:=by
 unfold cK at h; split at h<;>simp_all; exact⟨⟨_,h.1.2⟩,⟨_,h.2⟩⟩
theorem afN {op:Op} {ng:Bool} {t:Et} {a b:E} (h:cK P op (.eq ng t a b)=true):(∃x,cM x a=true)/\∃ x,cM x b=true:=by
 unfold cK at h; split at h<;>simp_all; exact⟨⟨_,h.1.2⟩,⟨_,h.2⟩⟩
theorem afI {op:Op} {uo:UnOp} {y:E} (h:cK P op (.un uo y)=true):∃x,cM x y=true:=by
 unfold cK at h; split at h<;>simp_all; exact⟨_,h.2⟩
theorem acp {op:Op} {k:IntKind} {y:E} (h:cK P op (.LF k y)=true):∃x,cM x y=true:=by
 unfold cK at h; split at h<;>simp_all; exact⟨_,h.2⟩
theorem ace {op:Op} {fn:Fn} {a b:List E} (h:cK P op (.O7 fn a b)=true):(∃x,iz x a=true)/\∃ x,iz x b=true:=by
 unfold cK at h; split at h<;>simp_all; exact⟨⟨_,h.1.2⟩,⟨_,h.2⟩⟩
theorem UD {op:Op} {k:Nat} {zs:List AV} {a b:E} (h:cK P op (.Kx k zs a b)=true):(∃t,im P t k=true/\gQ P t zs=true)/\(∃x,cM x a=true)/\∃ x,cM x b=true:=by
 unfold cK at h; split at h<;>simp_all; exact⟨⟨_,h.1.1⟩,⟨_,h.1.2⟩,⟨_,h.2⟩⟩
theorem acn {op:Op} {off:Nat} {y:E} (h:cK P op (.yn off y)=true):∃x,cM x y=true:=by
 unfold cK at h; split at h<;>simp_all; exact⟨_,h.2⟩
theorem UE {op:Op} {n:Nat} {y:E} {hi:Option E} (h:cK P op (.Ic n y hi)=true):(∃x,cM x y=true)/\∀ e,hi=some e->∃x,cM x e=true:=by
 unfold cK at h; split at h<;>simp_all
 refine⟨⟨_,h.2.1⟩,fun e he=>?_⟩;subst he; have:=h.2.2; unfold rP at this; split at this<;>simp_all; exact⟨_,this⟩
theorem acm {op:Op} {off:Nat} {ag:Option Nat} {y:E} (h:cK P op (.Wy off ag y)=true):∃x,cM x y=true:=by
 unfold cK at h; split at h<;>simp_all; exact⟨_,h.2⟩
theorem ack {op:Op} {k:Nat} {a b:E} (h:cK P op (.sU k a b)=true):(∃x,cM x a=true)/\∃ x,cM x b=true:=by
 unfold cK at h; split at h<;>simp_all; exact⟨⟨_,h.1.2⟩,⟨_,h.2⟩⟩
theorem acj {op:Op} {n k:Nat} {a b:E} (h:cK P op (.DU n k a b)=true):(∃x,cM x a=true)/\∃ x,cM x b=true:=by
 unfold cK at h; split at h<;>simp_all; exact⟨⟨_,h.1.2⟩,⟨_,h.2⟩⟩
theorem afM {op:Op} {n k:Nat} {ag:Option Nat} {a b:E} (h:cK P op (.ix n k ag a b)=true):(∃x,cM x a=true)/\∃ x,cM x b=true:=by
 unfold cK at h; split at h<;>simp_all; exact⟨⟨_,h.1.2⟩,⟨_,h.2⟩⟩
theorem aco {op:Op} {i:Nat} {y:E} (h:cK P op (.ext i y)=true):∃x,cM x y=true:=by
 unfold cK at h; split at h<;>simp_all; exact⟨_,h.2⟩
theorem aci {op:Op} {tab:List Nat} {y:E} (h:cK P op (.We tab y)=true):∃x,cM x y=true:=by
 unfold cK at h; split at h<;>simp_all; exact⟨_,h.2⟩
theorem ach {op:Op} {y:E} (h:cK P op (.len y)=true):∃x,cM x y=true:=by
 unfold cK at h; split at h<;>simp_all
 split at h<;>simp_all; exact⟨_,h.2⟩
theorem acf {op:Op} {ys:List E} (h:cK P op (.min ys)=true):∃x,iz x ys=true:=by
 unfold cK at h; split at h<;>simp_all; exact⟨_,h⟩
theorem acg {op:Op} {ys:List E} (h:cK P op (.max ys)=true):∃x,iz x ys=true:=by
 unfold cK at h; split at h<;>simp_all; exact⟨_,h⟩
theorem acb {op:Op} {k:Nat} {y:E} {lo hi:Option E} (h:cK P op (.EN k y lo hi)=true):(∃x,cM x y=true)/\(∀e,lo=some e->∃x,cM x e=true)/\∀ e,hi=some e->∃x,cM x e=true:=by
 unfold cK at h; split at h<;>simp_all
 refine⟨⟨_,h.1.1.2⟩,fun e he=>?_,fun e he=>?_⟩
 ·subst he; have:=h.1.2; unfold rP at this; split at this<;>simp_all; exact⟨_,this⟩
 ·subst he; have:=h.2; unfold rP at this; split at this<;>simp_all; exact⟨_,this⟩
theorem yt {place:Nat->Option (Nat × Nat)}:∀{ps:List (Nat × Operand)} {qs:List (Nat × Nat × E)},rM place ps qs=true->∀q∈qs,∃x,cM x q.2.2=true
 |[],[],_,q,hq=>by simp at hq
 |[],_::_,h,_,_=>by simp[rM] at h
 |_::_,[],h,_,_=>by simp[rM] at h
 |p::r,q::s,h,q',hq=>by
   simp only[rM,ae] at h;rcases aO.1 hq with e|e
   ·subst e; exact⟨_,h.1.2⟩
   ·exact yt h.2 q' e
theorem WO {op:Op} {zs:List AV} {ps:List (Nat × Nat × E)} (h:cK P op (.build zs ps)=true):(∃t,pk P t zs=true)/\∀ q∈ps,∃x,cM x q.2.2=true:=by
 unfold cK at h; split at h<;>simp_all
 obtain⟨h1,h2⟩:=h;refine⟨⟨_,h1⟩,?_⟩;split at h2
 ·simp_all; exact fun a b e hq=>yt h2.2 (a,b,e) hq
 ·split at h2
  ·exact fun a b e hq=>yt h2 (a,b,e) hq
  ·cases h2
 ·cases h2
theorem Q8 {op:Op} {k n:Nat} {zs:List AV} {ps:List (Nat × Nat × E)} (h:cK P op (.dV k n zs ps)=true):(∃t,im P t k=true/\gQ P t zs=true)/\∀ q∈ps,∃x,cM x q.2.2=true:=by
 unfold cK at h; split at h<;>simp_all
 exact⟨⟨_,h.1.1.1.2,h.1.1.2⟩,fun a b e hq=>yt h.2 (a,b,e) hq⟩
theorem afL {op:Op} {ag:Option Nat} {y:E} (h:cK P op (.ld ag y)=true):∃x,cM x y=true:=by
 unfold cK at h; split at h<;>simp_all; exact⟨_,h.2⟩
theorem afJ {op:Op} {k:Nat} {a b:E} (h:cK P op (.st k a b)=true):(∃x,cM x a=true)/\∃ x,cM x b=true:=by
 unfold cK at h; split at h<;>simp_all; exact⟨⟨_,h.1.2⟩,⟨_,h.2⟩⟩
theorem acd {op:Op} {zs:List AV} (h:cK P op (.new zs)=true):∃t,pk P t zs=true:=by
 unfold cK at h; split at h<;>simp_all; exact⟨_,h⟩
theorem acq {op:Op} {k:Nat} {zs:List AV} {y:E} (h:cK P op (.UC k zs y)=true):(∃t,im P t k=true/\gQ P t zs=true)/\∃ x,cM x y=true:=by
 unfold cK at h; split at h<;>simp_all
 split at h<;>simp_all; exact⟨⟨_,h.1.1,h.1.2⟩,⟨_,h.2⟩⟩
theorem UF {op:Op} {k:Nat} {a b:E} (h:cK P op (.app k a b)=true):(∃x,cM x a=true)/\∃ x,cM x b=true:=by
 unfold cK at h; split at h<;>simp_all
 split at h<;>simp_all; exact⟨⟨_,h.1.2⟩,⟨_,h.2⟩⟩
theorem OJ {op:Op} {k:Nat} {a b:E} (h:cK P op (.copy k a b)=true):(∃x,cM x a=true)/\∃ x,cM x b=true:=by
 unfold cK at h; split at h<;>simp_all
 split at h<;>simp_all; exact⟨⟨_,h.1.2⟩,⟨_,h.2⟩⟩
theorem tc {t:TypeId} {zs:List AV} (h:pk P t zs=true):mW zs=true/\bq zs=true:=by
 unfold pk at h;split at h
 ·split at h
  ·simp only[ae] at h; exact⟨K7 h.1,h.2⟩
  ·cases h
 ·cases h
end
end Go.Bm

/- Operations that change nothing: what they give. -/
set_option linter.unusedVariables false
namespace Go.Bm
open Go.Am
section
variable {P:Program} {X:Nat->Prop} {φ:cZ} {w:World} {N:Names} {s:St} {Ha:Heap} {t:Nat->Value} {c:dO} {cA:Am.dO} {call:Nat->List AV->Heap->Option (AV × Heap)}
theorem td (N:Names) (cs:List AV):gM N cs=cs.map (fV N):=by
 induction cs with
 |nil=>rfl
 |cons x r ih=>simp[gM,ih]
theorem RF (N:Names) (cs:List AV):kj N cs=cs.map (cC N):=by
 induction cs with
 |nil=>rfl
 |cons x r ih=>simp[kj,ih]
theorem qK.EO {x:E} (h:qK N s c cA x):EO (aY c s.env x):=by
 cases e:aY c s.env x<;>simp only[Go.Bm.EO]
 ·rename_i cs;intro j k xs hj;exfalso;have:=h.na cs e;clear e
  induction cs generalizing j with
  |nil=>simp at hj
  |cons y r ih=>
    cases j with
    |zero=>simp at hj; subst hj; simp[bJ] at this
    |succ j=>exact ih j (by simpa using hj) (by cases y<;>simp[bJ] at this<;>exact this)
 ·exact h.eo _ _ e
theorem qK.evQ {x:E} (h:qK N s c cA x):Am.ev cA (Al N s.env) (kN x)=vZ N (aY c s.env x):=by rw[h.ev,aaM N h.na]
theorem KA (h:er X φ w N s Ha t) {x:AV} (hl:x.leaf=true) (hk:cB (au s) s.H.length x):(fV N x).leaf=true:=by
 cases x<;>first|rfl|(simp[AV.leaf] at hl; done)|skip
 ·rename_i k p off len;simp only[fV,cC];cases N.ν p<;>rfl
 ·rename_i k p i off;obtain⟨n,_,e⟩:=FN h hk;simp only[fV,e,AV.leaf]
theorem uy (h:er X φ w N s Ha t):∀{cs:List AV},bq cs=true->jZ (au s) s.H.length cs->bq (gM N cs)=true
 |[],_,_=>rfl
 |x::r,hl,hk=>by
   simp only[bq,ae] at hl;simp only[gM,bq,ae];exact⟨KA h hl.1 hk.1,uy h hl.2 hk.2⟩
theorem G4 (N:Names) {x:AV} (hn:∀cs,x=.agg cs->bJ cs=false):(fV N x).cells=gM N x.cells:=by
 cases x<;>first|rfl|skip
 ·rename_i cs; simp only[fV,cC,AV.cells]; rw[kh N (hn cs rfl)]
 ·rename_i k p off len;simp only[fV,cC,AV.cells,gM];cases N.ν p<;>rfl
 ·rename_i k p i off;simp only[fV,cC,AV.cells,gM];cases N.ν p<;>rfl
theorem wI {o:Rt->Option (Nat × List AV)} {nb:Nat} {x:AV} (h:cB o nb x):jZ o nb x.cells:=by
 cases x<;>first|exact⟨h,trivial⟩|exact h
theorem MR {o:Rt->Option (Nat × List AV)} {nb n:Nat} {cs:List AV} (h:jZ o nb cs):jZ o nb (cs.take n):=
 fO.2 fun i c hc=>fO.1 h i c (by rw[bE] at hc; split at hc; exact hc; cases hc)
theorem AO {o:Rt->Option (Nat × List AV)} {nb n:Nat} {cs:List AV} (h:jZ o nb cs):jZ o nb (cs.drop n):=
 fO.2 fun i c hc=>fO.1 h (n+i) c (by rw[aW] at hc; exact hc)
theorem rB {o:Rt->Option (Nat × List AV)} {nb:Nat}:∀{cs ds:List AV},jZ o nb cs->jZ o nb ds->jZ o nb (cs++ds)
 |[],_,_,h=>h
 |x::r,_,h,k=>⟨h.1,rB h.2 k⟩
theorem abn {o:Rt->Option (Nat × List AV)} {nb off:Nat} {cs ds:List AV} (h:jZ o nb cs) (k:jZ o nb ds):jZ o nb (iZ cs off ds):=rB (rB (MR h) k) (AO h)
theorem ad8 (N:Names) (cs ds:List AV) (off:Nat):gM N (iZ cs off ds)=iZ (gM N cs) off (gM N ds):=by
 simp only[td,iZ,List.map_append,List.map_take,List.map_drop,cN]
def UT (cs:List AV):Prop:=∀(j k:Nat) (xs:List AV),cs[j]?=some (.own k xs)->xs=[]
theorem UT.iZ {cs ds:List AV} {off:Nat} (h:UT cs) (k:UT ds):UT (Am.iZ cs off ds):=by
 intro j kk xs hj;have:=bf hj;simp only[Am.iZ,aD] at this
 have mem:∀{l:List AV},UT l->(.own kk xs)∈l->xs=[]:=fun hl hm=>by
  obtain⟨i,hi⟩:=bz hm;exact hl i _ _ hi
 rcases this with (hm|hm)|hm
 ·exact mem h (cS hm)
 ·exact mem k hm
 ·exact mem h (cT hm)
theorem qK.UT {x:E} (h:qK N s c cA x):UT (aY c s.env x).cells:=by
 have he:=h.EO;cases e:aY c s.env x<;>rw[e] at he<;>simp only[AV.cells]<;>first|exact he|skip
 all_goals
  intro j k xs hj;cases j with
  |zero=>simp at hj<;>exact hj.2▸(by first|exact he|exact he)
  |succ j=>simp at hj
theorem sI (h:er X φ w N s Ha t) (r9:cA.gl=c.gl):∀{ps:List (Nat × Nat × E)} {zs cs:List AV},(∀q∈Oy ps,∃x,cM x q.2.2=true)->jZ (au s) s.H.length zs->UT zs->qN c s.env zs ps=some cs ->
  oZ cA (Al N s.env) (gM N zs) (Oy ps)=some (gM N cs)/\jZ (au s) s.H.length cs/\UT cs/\cs.length=zs.length
 |[],zs,cs,_,hz,he,hf=>by simp[qN] at hf; subst hf; exact⟨rfl,hz,he,rfl⟩
 |(off,sz,x)::r,zs,cs,hq,hz,he,hf=>by
   simp only[qN] at hf;split at hf
   case isFalse=>cases hf
   rename_i hc;obtain⟨c1,c2,c3⟩:=hc;obtain⟨o,ho⟩:=hq (off,sz,kN x) (by simp[Oy]);have hx:=cq (c:=c) (cA:=cA) h r9 ho;have mY:=G4 N hx.na;obtain⟨k1,k2,k3,k4⟩:=sI h r9 (ps:=r) (fun q hq'=>hq q (by simp[Oy,hq'])) (abn hz (wI hx.ok)) (he.iZ hx.UT) hf;refine⟨?_,k2,k3,?_⟩
   ·simp only[Oy,oZ,hx.ev,mY];rw[if_pos ⟨by rw[iw]; exact c1,by rw[iw]; exact c2,uy h c3 (wI hx.ok)⟩,<-ad8];exact k1
   ·rw[k4]; exact fS (by omega)
theorem Bq (N:Names):∀{zs:List AV},mW (uk zs)=true->uk zs=gM N zs/\UT zs
 |[],_=>⟨rfl,fun j k xs h=>by simp at h⟩
 |x::r,h=>by
   simp only[uk,mW,ae] at h;obtain⟨h1,h2⟩:=Bq N h.2;rcases dn_c (A9 h.1) with⟨k,rfl,e⟩|⟨hc,e⟩
   ·refine⟨by simp only[uk,gM,h1,e,fV],fun j k xs hj=>?_⟩;cases j with
    |zero=>simp at hj; exact hj.2
    |succ j=>exact h2 j k xs (by simpa using hj)
   ·rw[e] at h;refine⟨?_,fun j k xs hj=>?_⟩
    ·simp only[uk,gM,h1,e];congr 1;have:=Xo N h.1;cases x<;>first|exact this.symm|(simp[zO] at h; done)
    ·cases j with
     |zero=>simp at hj; subst hj; simp[zO] at h
     |succ j=>exact h2 j k xs (by simpa using hj)
theorem AK {o:Rt->Option (Nat × List AV)} {nb:Nat}:∀{zs:List AV},mW (uk zs)=true->jZ o nb zs
 |[],_=>trivial
 |x::r,h=>by
   simp only[uk,mW,ae] at h;rcases dn_c (A9 h.1) with⟨k,rfl,e⟩|⟨hc,e⟩
   ·exact⟨trivial,AK h.2⟩
   ·exact⟨ok_c hc,AK h.2⟩
theorem QS (N:Names):∀{l:List Bool} {xs ys:List AV} {e:Bool},yp l xs ys=some e->yp l (gM N xs) (gM N ys)=some e
 |[],[],[],e,h=>h
 |true::l,x::r,y::s,e,h=>by
   cases x<;>try (simp[yp] at h; done)
   cases y<;>try (simp[yp] at h; done)
   simp only[yp,gM,fV,cC] at h ⊢;split at h
   ·rename_i hk;rw[if_pos hk];split at h
    ·rename_i e' he;rw[QS N he];exact h
    ·cases h
   ·cases h
 |false::l,x::r,y::s,e,h=>by
   cases x<;>try (simp[yp] at h; done)
   cases y<;>try (simp[yp] at h; done)
   simp only[yp,gM,fV,cC] at h ⊢;split at h
   ·rename_i e' he;rw[QS N he];exact h
   ·cases h
 |[],x::r,ys,e,h=>by simp[yp] at h
 |[],[],y::s,e,h=>by simp[yp] at h
 |b::l,[],ys,e,h=>by cases b<;>simp[yp] at h
 |b::l,x::r,[],e,h=>by cases b<;>cases x<;>simp[yp] at h
theorem TT (N:Names) (mx:Bool):∀{xs:List AV} {x v:AV},zH mx x xs=some v->(∃k n,x=.int k n)->zH mx x (gM N xs)=some v/\∃ k n,v=.int k n
 |[],x,v,h,hx=>by simp[zH] at h; subst h; exact⟨rfl,hx⟩
 |y::r,x,v,h,hx=>by
   obtain⟨k,n,rfl⟩:=hx;cases y<;>try (simp[zH] at h; done)
   simp only[zH,gM,fV,cC] at h ⊢;exact TT N mx h ⟨_,_,rfl⟩
theorem TU (N:Names) {mx:Bool} {xs:List AV} {v:AV} (h:yG mx xs=some v):yG mx (gM N xs)=some v/\∃ k n,v=.int k n:=by
 cases xs with
 |nil=>simp[yG] at h
 |cons y r=>
   cases y<;>try (simp[yG] at h; done)
   simp only[yG,gM,fV,cC] at h ⊢;exact TT N mx h ⟨_,_,rfl⟩
theorem UM {op:BinOp} {x y v:AV} (h:qT op x y=some v):((∃k n,x=.int k n)/\(∃k n,y=.int k n)/\((∃k n,v=.int k n)\/∃ b,v=.bool b))\/(∃a,x=.str a)/\(∃b,y=.str b)/\∃ s,v=.str s:=by
 unfold qT at h;split at h
 case h_3=>cases h
 case h_2=>
  split at h
  case h_2=>cases h
  split at h
  case isFalse=>cases h
  simp only[af] at h;exact .inr ⟨⟨_,rfl⟩,⟨_,rfl⟩,_,h.symm⟩
 refine .inl ⟨⟨_,_,rfl⟩,⟨_,_,rfl⟩,?_⟩;split at h
 ·split at h
  ·cases h
  ·simp at h; exact .inl ⟨_,_,h.symm⟩
 ·split at h
  ·cases h
  ·simp at h; exact .inl ⟨_,_,h.symm⟩
 ·split at h
  ·unfold arith at h
   split at h<;>first
    |(simp at h; exact .inl ⟨_,_,h.symm⟩)
    |(simp at h; exact .inr ⟨_,h.symm⟩)
    | (split at h
       ·cases h
       ·simp at h; exact .inl ⟨_,_,h.symm⟩)
    |cases h
  ·cases h
theorem LY {v:AV} (h:(∃k n,v=.int k n)\/∃ b,v=.bool b) (o:Rt->Option (Nat × List AV)) (nb:Nat):vZ N v=v/\cB o nb v/\EO v:=by
 rcases h with⟨k,n,rfl⟩|⟨b,rfl⟩<;>exact⟨rfl,trivial,trivial⟩
theorem PW (N:Names) {ag:Option Nat} {cs:List AV} {v:AV} {o:Rt->Option (Nat × List AV)} {nb:Nat} (h:Kg ag cs=some v) (hk:jZ o nb cs):BR ag (kj N cs)=some (vZ N v)/\cB o nb v/\EO v/\bL v=false:=by
 unfold Kg at h;split at h
 case h_2=>cases h
 rename_i v' hr;split at h
 ·cases h
 rename_i ho;simp at h ho;subst h
 have he:EO v':=by
  cases v'<;>simp only[EO]<;>try (simp[bL] at ho; done)
  rename_i ds;intro j k xs hj;exfalso;simp only[bL] at ho;clear hr
  induction ds generalizing j with
  |nil=>simp at hj
  |cons y r ih=>
    cases j with
    |zero=>simp at hj; subst hj; simp[bJ] at ho
    |succ j=>exact ih (by cases y<;>simp[bJ] at ho<;>exact ho) j (by simpa using hj)
 unfold BR at hr ⊢;cases ag with
 |some k=>
   simp only at hr ⊢;split at hr
   case isFalse=>cases hr
   rename_i hle;simp at hr;subst hr;rw[if_pos (by rw[dB]; exact hle),kI N ho];exact⟨by simp only[cC,RF,List.map_take],MR hk,he,ho⟩
 |none=>
   simp only at hr ⊢;cases cs with
   |nil=>cases hr
   |cons x r=>
     simp at hr;subst hr;rw[kI N ho];exact⟨by simp[kj],hk.1,he,ho⟩
theorem EI (N:Names) (cs:List AV) (n:Nat):(kj N cs).drop n=kj N (cs.drop n):=by simp only[RF,List.map_drop]
end
end Go.Bm

/- Operations that change nothing: the older machine does the same. -/
namespace Go.Bm
open Go.Am
section
variable {P:Program} {X:Nat->Prop} {φ:cZ} {w:World} {N:Names} {s:St} {Ha:Heap} {t:Nat->Value} {c:dO} {cA:Am.dO} {call:Nat->List AV->Heap->Option (AV × Heap)}
theorem Ri (h:er X φ w N s Ha t) (r9:cA.gl=c.gl) {d m n:Nat} {x:Option E} (hk:∀e,dnO x=some e->∃o,cM o e=true) (hb:Ag c s.env d m x=some n):Bw cA (Al N s.env) d m (dnO x)=some n:=by
 cases x with
 |none=>exact hb
 |some x=>
   obtain⟨o,ho⟩:=hk _ rfl;simp only[Ag] at hb;simp only[dnO,Bw];cases e:aY c s.env x<;>rw[e] at hb<;>try (simp[bnd] at hb; done)
   rw[(cq (c:=c) (cA:=cA) h r9 ho).int e];exact hb
theorem Cj {x:AV} {n m:Nat} (h:idx x n=some m):∃k i,x=.int k i/\idx (.int k i) n=some m/\m<n:=by
 unfold idx at h;split at h
 ·rename_i k i;refine⟨k,i,rfl,h,?_⟩;split at h
  ·simp at h; omega
  ·cases h
 ·cases h
theorem TZ (h:er X φ w N s Ha t) {x:E} (hx:qK N s c cA x) {n:Nat} (hl:ud (aY c s.env x)=some n):Y9 (Am.ev cA (Al N s.env) (kN x))=some n:=by
 rw[hx.ev];have hk:=hx.ok;cases e:aY c s.env x<;>rw[e] at hl hk<;>try (simp[ud] at hl; done)
 ·exact hl
 ·exact hl
 ·exact hl
 ·rename_i k xs;have:=hx.eo k xs e;subst this;exact hl
 ·rename_i k p off len;simp only[ud] at hl;cases hl;simp only[fV];rcases sZ h hk with⟨m,_,e2⟩|⟨_,_,rfl,e2⟩<;>rw[e2]<;>rfl
theorem aeF (h:er X φ w N s Ha t) (r9:cA.gl=c.gl) {op:Op} {kd:Kd} {v:AV} (hk:cK P op (ku kd)=true) (hs:P5 c s.env kd=some v) :
  fu cA call (Al N s.env) Ha (ku kd)=some (vZ N v,Ha,.no)/\cB (au s) s.H.length v/\EO v:=by
 cases kd<;>simp only[P5,reduceCtorEq] at hs<;>simp only[ku] at hk ⊢
 case mv x=>
  obtain⟨o,ho⟩:=afK hk;have hx:=cq (c:=c) (cA:=cA) h r9 ho;simp at hs;subst hs;exact⟨by simp only[fu,hx.evQ],hx.ok,hx.EO⟩
 case pick x a b=>
  obtain⟨⟨o1,h1⟩,⟨o2,h2⟩,o3,h3⟩:=aaj hk;have hx:=cq (c:=c) (cA:=cA) h r9 h1;have ha:=cq (c:=c) (cA:=cA) h r9 h2;have hb:=cq (c:=c) (cA:=cA) h r9 h3;split at hs
  case h_2=>cases hs
  rename_i b' he;simp at hs;subst hs;simp only[fu,hx.bool he];cases b'
  ·exact⟨by simp[hb.evQ],by simpa using hb.ok,by simpa using hb.EO⟩
  ·exact⟨by simp[ha.evQ],by simpa using ha.ok,by simpa using ha.EO⟩
 case build zs ps=>
  obtain⟨⟨t,ht⟩,hq⟩:=WO hk;obtain⟨e1,e2⟩:=Bq N (tc ht).1;split at hs
  case h_2=>cases hs
  rename_i cs hf;simp at hs;subst hs;obtain⟨k1,k2,k3,k4⟩:=sI (cA:=cA) h r9 hq (AK (tc ht).1) e2 hf;rw[e1];exact⟨by simp only[fu,k1,vZ],k2,k3⟩
 case mB x=>
  obtain⟨o,ho⟩:=WM hk;have hx:=cq (c:=c) (cA:=cA) h r9 ho;have cX:=hx.ok;simp only[fu,hx.ev];cases e:aY c s.env x<;>rw[e] at hs cX<;>try (simp at hs; done)
  ·simp at hs; subst hs; exact⟨rfl,trivial,trivial⟩
  ·simp at hs; subst hs; exact⟨rfl,cX,trivial⟩
  ·rename_i f a b;cases f<;>simp at hs
   subst hs;exact⟨rfl,cX,trivial⟩
 case bin op' x y=>
  obtain⟨⟨o1,h1⟩,o2,h2⟩:=acs hk;have hx:=cq (c:=c) (cA:=cA) h r9 h1;have hy:=cq (c:=c) (cA:=cA) h r9 h2;rcases UM hs with⟨⟨k1,n1,e1⟩,⟨k2,n2,e2⟩,hv⟩|⟨⟨a,e1⟩,⟨b,e2⟩,u,rfl⟩
  ·obtain⟨q1,q2,q3⟩:=LY (N:=N) hv (au s) s.H.length;rw[e1,e2] at hs;simp only[fu,hx.int e1,hy.int e2,hs,q1];exact⟨trivial,q2,q3⟩
  ·rw[e1,e2] at hs;have f1:=hx.ev;have f2:=hy.ev;rw[e1] at f1;rw[e2] at f2;simp only[fV,cC] at f1 f2;simp only[fu,f1,f2,hs];exact⟨rfl,trivial,trivial⟩
 case eq ng et x y=>
  obtain⟨⟨o1,h1⟩,o2,h2⟩:=afN hk;have hx:=cq (c:=c) (cA:=cA) h r9 h1;have hy:=cq (c:=c) (cA:=cA) h r9 h2;split at hs
  case h_2=>cases hs
  rename_i e he;simp at hs;subst hs;refine⟨?_,trivial,trivial⟩
  have:WB et (Am.ev cA (Al N s.env) (kN x)) (Am.ev cA (Al N s.env) (kN y))=some e:=by
   rw[hx.ev,hy.ev];have hxk:=hx.ok;unfold eqB at he;split at he
   ·rename_i a b e1 e2; rw[e1,e2]; exact he
   ·rename_i l xs ys e1 e2;have n1:=hx.na _ e1;have n2:=hy.na _ e2;rw[e1,e2];simp only[fV,cC,WB];rw[<-kh N n1,<-kh N n2];exact QS N he
   ·rename_i z k e2;rw[e2];simp only[fV];cases e1:aY c s.env x<;>rw[e1] at he hxk<;>try (simp[gK] at he; done)
    ·simpa[gK,WB,isNil,fV,cC] using he
    ·rename_i k' xs;cases xs with
     |nil=>simp[gK] at he
     |cons u r=>simpa[gK,WB,isNil,fV,cC] using he
    ·simpa[gK,WB,isNil,fV,cC] using he
    ·rename_i k' p off len;simp only[gK] at he;split at he
     ·cases he
     ·rename_i hlen;simp at he;subst he;simp only[fV];rcases sZ h hxk with⟨m,_,e3⟩|⟨_,_,h0,_⟩
      ·rw[e3]; rfl
      ·exact absurd h0 hlen
   ·rename_i z e2;rw[e2];simp only[fV];cases e1:aY c s.env x<;>rw[e1] at he hxk<;>try (simp[gK] at he; done)
    ·simpa[gK,WB,isNil,fV,cC] using he
    ·rename_i k' xs;cases xs with
     |nil=>simp[gK] at he
     |cons u r=>simpa[gK,WB,isNil,fV,cC] using he
    ·simpa[gK,WB,isNil,fV,cC] using he
    ·rename_i k' p off len;simp only[gK] at he;split at he
     ·cases he
     ·rename_i hlen;simp at he;subst he;simp only[fV];rcases sZ h hxk with⟨m,_,e3⟩|⟨_,_,h0,_⟩
      ·rw[e3]; rfl
      ·exact absurd h0 hlen
   ·rename_i z e2;rw[e2];cases e1:aY c s.env x<;>rw[e1] at he<;>try (simp[gK] at he; done)
    all_goals simpa[gK,WB,isNil,fV,cC] using he
   ·rename_i z e2;rw[e2];cases e1:aY c s.env x<;>rw[e1] at he<;>try (simp[gK] at he; done)
    all_goals simpa[gK,WB,isNil,fV,cC] using he
   ·cases he
  simp only[fu,this,vZ,cC]
 case un uo x=>
  obtain⟨o,ho⟩:=afI hk;have hx:=cq (c:=c) (cA:=cA) h r9 ho;simp only[fu,hx.ev];cases e:aY c s.env x<;>rw[e] at hs<;>try (cases uo<;>simp[PE] at hs; done)
  ·have:(∃k n,v=.int k n)\/∃ b,v=.bool b:=by
    cases uo<;>simp[PE] at hs
    ·exact .inl ⟨_,_,hs.symm⟩
    ·exact .inl ⟨_,_,hs.symm⟩
   obtain⟨q1,q2,q3⟩:=LY (N:=N) this (au s) s.H.length;simp only[fV,cC,hs,q1];exact⟨trivial,q2,q3⟩
  ·have:(∃k n,v=.int k n)\/∃ b,v=.bool b:=by
    cases uo<;>simp[PE] at hs
    exact .inr ⟨_,hs.symm⟩
   obtain⟨q1,q2,q3⟩:=LY (N:=N) this (au s) s.H.length;simp only[fV,cC,hs,q1];exact⟨trivial,q2,q3⟩
 case LF k x=>
  obtain⟨o,ho⟩:=acp hk;have hx:=cq (c:=c) (cA:=cA) h r9 ho;split at hs
  case h_2=>cases hs
  rename_i k' n e;simp at hs;subst hs;simp only[fu,hx.int e];exact⟨rfl,trivial,trivial⟩
 case O7 fn a b=>
  obtain⟨⟨o1,h1⟩,o2,h2⟩:=ace hk;obtain⟨a1,a2⟩:=tt (cA:=cA) h r9 h1;obtain⟨b1,b2⟩:=tt (cA:=cA) h r9 h2;split at hs
  ·cases hs
  rename_i ho;simp at hs ho;subst hs
  have sp:∀{xs ys:List AV},bJ (xs++ys)=false->bJ xs=false/\bJ ys=false:=by
   intro xs
   induction xs with
   |nil=>intro ys h; exact⟨rfl,h⟩
   |cons z r ih=>
     intro ys h;cases z<;>simp[bJ] at h ⊢<;>exact ih h
  obtain⟨hy,ho⟩:=ho;obtain⟨p1,p2⟩:=sp ho;refine⟨?_,⟨a2,b2,fun Gy=>by rw[hy] at Gy; cases Gy⟩,trivial⟩;simp only[fu,a1,b1,vZ,cC,kh N p1,kh N p2,hy,Bool.false_eq_true,if_false]
 case EN k x lo hi=>
  obtain⟨⟨o,ho⟩,h1,h2⟩:=acb hk;have hx:=cq (c:=c) (cA:=cA) h r9 ho;have cX:=hx.ok;split at hs
  case h_2=>cases hs
  rename_i n hn;split at hs
  case h_2=>cases hs
  rename_i hh hhh;split at hs
  case h_2=>cases hs
  rename_i l hl;have g1:=TZ h hx hn;have g2:=Ri h r9 h2 hhh;have g3:=Ri h r9 h1 hl
  have bb:∀{d m n:Nat} {x:Option E},Ag c s.env d m x=some n->d<=m->n<=m:=by
   intro d m n x hb hd;cases x with
   |none=>simp[Ag] at hb; omega
   |some x=>
     simp only[Ag] at hb;unfold bnd at hb;split at hb
     ·split at hb
      ·simp at hb; omega
      ·cases hb
     ·cases hb
  have l1:=bb hhh (aI _);have l2:=bb hl (Nat.zero_le _);simp only[fu,g1,g2,g3];rw[hx.ev];cases e:aY c s.env x<;>rw[e] at hs cX hn<;>try (simp at hs; done)
  ·rename_i k' xs;simp only at hs;split at hs
   case isFalse=>cases hs
   rename_i tP;simp at hs;subst hs;simp only[fV,cC];rw[if_pos tP];exact⟨rfl,trivial,trivial⟩
  ·rename_i k' b off len;simp only at hs;split at hs
   case isFalse=>cases hs
   rename_i tP;simp at hs;subst hs;simp only[fV,cC];rw[if_pos tP];exact⟨rfl,cX,trivial⟩
  ·rename_i k' xs;have:=hx.eo k' xs e;subst this;simp only at hs;split at hs
   case isFalse=>cases hs
   simp at hs;subst hs;exact⟨rfl,trivial,rfl⟩
  ·rename_i k' p off len;simp only at hs;split at hs
   case isFalse=>cases hs
   rename_i tP;subst tP;simp at hs;subst hs;simp only[ud,af] at hn;subst hn
   have ZD:cB (au s) s.H.length (.dz k' p (off+l) (hh-l)):=by
    simp only[cB] at cX ⊢;obtain⟨xs,e1,e2⟩:=cX;exact⟨xs,e1,by omega⟩
   refine⟨?_,ZD,trivial⟩;simp only[fV];rcases sZ h cX with⟨m,hm,e3⟩|⟨hm,e0,e1,e3⟩
   ·rw[e3];simp only[if_true,vZ,cC,hm,ct]
   ·rw[e3];simp only[vZ,cC,hm]
 case yn off x=>
  obtain⟨o,ho⟩:=acn hk;have hx:=cq (c:=c) (cA:=cA) h r9 ho;have cX:=hx.ok;simp only[fu,hx.ev];cases e:aY c s.env x<;>rw[e] at hs cX<;>try (simp at hs; done)
  ·simp at hs; subst hs; exact⟨rfl,trivial,trivial⟩
  ·simp at hs; subst hs; exact⟨rfl,cX,trivial⟩
  ·rename_i k p i o';simp at hs;subst hs;have ZD:cB (au s) s.H.length (.eV k p i (o'+off)):=cX;refine⟨?_,ZD,trivial⟩;obtain⟨m,hm,e2⟩:=FN h cX;simp only[fV,e2,vZ,cC,hm,Nat.add_assoc]
 case Ic n x hi=>
  cases hi with
  |some y=>simp at hs
  |none=>
  obtain⟨⟨o,ho⟩,_⟩:=UE hk;have hx:=cq (c:=c) (cA:=cA) h r9 ho;have cX:=hx.ok;simp only[fu,hx.ev,dnO,Bw];simp only at hs;cases e:aY c s.env x<;>rw[e] at hs cX<;>try (simp at hs; done)
  rename_i cs;simp only at hs;split at hs
  case isFalse=>cases hs
  rename_i hc;simp at hs;subst hs;simp only[fV,cC];rw[if_pos ⟨hc.1,trivial,hc.2⟩];exact⟨rfl,trivial,trivial⟩
 case Wy off ag x=>
  obtain⟨o,ho⟩:=acm hk;have hx:=cq (c:=c) (cA:=cA) h r9 ho;have cX:=hx.ok;simp only[fu,hx.ev];cases e:aY c s.env x<;>rw[e] at hs cX<;>try (simp at hs; done)
  rename_i cs;simp only at hs;obtain⟨r1,r2,r3,_⟩:=PW N hs (AO (n:=off) cX);simp only[fV,cC,EI,r1];exact⟨trivial,r2,r3⟩
 case sU k x i=>
  obtain⟨⟨o1,h1⟩,o2,h2⟩:=ack hk;have hx:=cq (c:=c) (cA:=cA) h r9 h1;have hi:=cq (c:=c) (cA:=cA) h r9 h2;have cX:=hx.ok;simp only[fu,hx.ev];cases e:aY c s.env x<;>rw[e] at hs cX<;>try (simp at hs; done)
  ·rename_i k' xs;simp only at hs;split at hs
   case h_2=>cases hs
   rename_i j hj;obtain⟨ki,ni,e2,Pd,_⟩:=Cj hj;split at hs
   case isFalse=>cases hs
   rename_i tP;split at hs
   case h_2=>cases hs
   rename_i u hu;simp at hs;subst hs;simp only[fV,cC,hi.int e2,Pd,if_pos tP,hu];exact⟨rfl,trivial,trivial⟩
  ·rename_i k' b off len;simp only at hs;split at hs
   case h_2=>cases hs
   rename_i j hj;obtain⟨ki,ni,e2,Pd,_⟩:=Cj hj;split at hs
   case isFalse=>cases hs
   rename_i tP;simp at hs;subst hs;simp only[fV,cC,hi.int e2,Pd,if_pos tP];exact⟨rfl,cX,trivial⟩
  ·rename_i k' p off len;simp only at hs;split at hs
   case h_2=>cases hs
   rename_i j hj;obtain⟨ki,ni,e2,Pd,bQ⟩:=Cj hj;split at hs
   case isFalse=>cases hs
   rename_i tP;subst tP;simp at hs;subst hs;simp only[fV];rcases sZ h cX with⟨m,hm,e3⟩|⟨_,_,h0,_⟩
   ·rw[e3];simp only[hi.int e2,Pd,if_true,vZ,cC,hm,ct,Nat.add_zero];refine⟨trivial,?_,trivial⟩;simp only[cB] at cX ⊢;obtain⟨xs,q1,q2⟩:=cX;exact⟨xs,q1,by omega⟩
   ·omega
 case DU n k x i=>
  obtain⟨⟨o1,h1⟩,o2,h2⟩:=acj hk;have hx:=cq (c:=c) (cA:=cA) h r9 h1;have hi:=cq (c:=c) (cA:=cA) h r9 h2;have cX:=hx.ok;split at hs
  case h_2=>cases hs
  rename_i j hj;obtain⟨ki,ni,e2,Pd,_⟩:=Cj hj;simp only[fu,hi.int e2,Pd,hx.ev];cases e:aY c s.env x<;>rw[e] at hs cX<;>try (simp at hs; done)
  ·simp at hs; subst hs; exact⟨rfl,trivial,trivial⟩
  ·simp at hs; subst hs; exact⟨rfl,cX,trivial⟩
  ·rename_i k' p l off;simp at hs;subst hs;have ZD:cB (au s) s.H.length (.eV k' p l (off+j*k)):=cX;refine⟨?_,ZD,trivial⟩;obtain⟨m,hm,e3⟩:=FN h cX;simp only[fV,e3,vZ,cC,hm,Nat.add_assoc]
 case ix n k ag x i=>
  obtain⟨⟨o1,h1⟩,o2,h2⟩:=afM hk;have hx:=cq (c:=c) (cA:=cA) h r9 h1;have hi:=cq (c:=c) (cA:=cA) h r9 h2;have cX:=hx.ok;split at hs
  case h_2=>cases hs
  rename_i j hj;obtain⟨ki,ni,e2,Pd,_⟩:=Cj hj;simp only[fu,hi.int e2,Pd,hx.ev];cases e:aY c s.env x<;>rw[e] at hs cX<;>try (simp at hs; done)
  rename_i cs;simp only at hs;obtain⟨r1,r2,r3,_⟩:=PW N hs (AO (n:=j*k) cX);simp only[fV,cC,EI,r1];exact⟨trivial,r2,r3⟩
 case ext i x=>
  obtain⟨o,ho⟩:=aco hk;have hx:=cq (c:=c) (cA:=cA) h r9 ho;have cX:=hx.ok;simp only[fu,hx.ev];cases e:aY c s.env x<;>rw[e] at hs cX<;>try (simp at hs; done)
  rename_i vs;simp only at hs;split at hs
  case h_2=>cases hs
  rename_i u hu;split at hs
  ·cases hs
  rename_i gV;simp at hs gV;subst hs;simp only[fV,cC,lT,hu,cj];refine⟨by rw[kI N gV],fO.1 cX i u hu,?_⟩;cases u<;>simp only[EO]<;>try (simp[bL] at gV; done)
  rename_i ds;intro j k xs hj;exfalso;simp only[bL] at gV;clear hu
  induction ds generalizing j with
  |nil=>simp at hj
  |cons y r ih=>
    cases j with
    |zero=>simp at hj; subst hj; simp[bJ] at gV
    |succ j=>exact ih (by cases y<;>simp[bJ] at gV<;>exact gV) j (by simpa using hj)
 case We tab i=>
  obtain⟨o,ho⟩:=aci hk;have hi:=cq (c:=c) (cA:=cA) h r9 ho;split at hs
  case h_2=>cases hs
  rename_i j hj;obtain⟨ki,ni,e2,Pd,_⟩:=Cj hj;split at hs
  case h_2=>cases hs
  rename_i u hu;simp at hs;subst hs;simp only[fu,hi.int e2,Pd,hu];exact⟨rfl,trivial,trivial⟩
 case len x=>
  obtain⟨o,ho⟩:=ach hk;have hx:=cq (c:=c) (cA:=cA) h r9 ho;split at hs
  case h_2=>cases hs
  rename_i n hn;simp at hs;subst hs;simp only[fu,TZ h hx hn];exact⟨rfl,trivial,trivial⟩
 case min xs=>
  obtain⟨o,ho⟩:=acf hk;obtain⟨a1,a2⟩:=tt (cA:=cA) h r9 ho;obtain⟨m1,m2⟩:=TU N hs;obtain⟨q1,q2,q3⟩:=LY (N:=N) (.inl m2) (au s) s.H.length;simp only[fu,a1,m1,q1];exact⟨trivial,q2,q3⟩
 case max xs=>
  obtain⟨o,ho⟩:=acg hk;obtain⟨a1,a2⟩:=tt (cA:=cA) h r9 ho;obtain⟨m1,m2⟩:=TU N hs;obtain⟨q1,q2,q3⟩:=LY (N:=N) (.inl m2) (au s) s.H.length;simp only[fu,a1,m1,q1];exact⟨trivial,q2,q3⟩
end
end Go.Bm

/- A value in hand; operations that read and make. -/
namespace Go.Bm
open Go.Am
section
variable {P:Program} {X:Nat->Prop} {φ:cZ} {w:World} {N N':Names} {s:St} {Ha:Heap} {t t':Nat->Value} {B:Nat->Nat} {base:Nat} {v:AV} {v':Value}
theorem EH (ep:N'.β=N.β) {x:AV} (h:∀p∈aK x,N'.ν p=N.ν p):cC N' x=cC N x:=by
 have e:=Xl (N:=N) (N':=N') (m:=id) (g:=fun y=>y) ep (fun _ _ _ _=>⟨rfl,rfl⟩) x h;have:cD (fun y=>y) x=x:=sA (m:=id) (fun _ _ _ _=>⟨rfl,rfl⟩) x (fun _ _=>rfl)
 rwa [this] at e
theorem Im (ep:N'.β=N.β) {r:Rt} {x:AV} (hr:∀k xs,x=.own k xs->N'.ν r=N.ν r) (h:∀p∈aK x,N'.ν p=N.ν p):iJ N' r x=iJ N r x:=by
 have e:=zg (N:=N) (N':=N') (m:=id) (g:=fun y=>y) ep (fun _ _ _ _=>⟨rfl,rfl⟩) (r:=r) (r':=r) hr h;have:cD (fun y=>y) x=x:=sA (m:=id) (fun _ _ _ _=>⟨rfl,rfl⟩) x (fun _ _=>rfl)
 rwa [this] at e
theorem VJ (ep:N'.β=N.β) {i:Nat} {x:AV} (h1:N'.ν (.s i)=N.ν (.s i)) (h2:∀j,N'.ν (.sc i j)=N.ν (.sc i j)) (h:∀p∈aK x,N'.ν p=N.ν p):jY N' i x=jY N i x:=by
 have e:=J7 (N:=N) (N':=N') (m:=id) (g:=fun y=>y) ep (fun _ _ _ _=>⟨rfl,rfl⟩) (i:=i) (i':=i) h1 h2 h;have:cD (fun y=>y) x=x:=sA (m:=id) (fun _ _ _ _=>⟨rfl,rfl⟩) x (fun _ _=>rfl)
 rwa [this] at e
theorem er.dz (h:er X φ w N s Ha t) {r:Rt} {x:AV} (hx:at_ s r=some x):∀p∈aK x,(au s p).isSome:=BW x (h.AM hx)
theorem afX {i:Nat} (hi:get s.env i=.any) {q:Rt} (hq:bw i q=false):at_ ⟨put s.env i v,s.H⟩ q=at_ s q:=by
 cases q with
 |s j=>simp only[bw,decide_eq_false_iff_not] at hq; simp[at_,bD,hq]
 |sc j l=>simp only[bw,decide_eq_false_iff_not] at hq; simp[at_,bD,hq]
 |c b j=>rfl
theorem ny {i:Nat} (hi:get s.env i=.any) {q:Rt} (hq:bw i q=false):au ⟨put s.env i v,s.H⟩ q=au s q:=gN (afX hi hq)
theorem UP {i:Nat} (hi:get s.env i=.any) {q:Rt} (hq:bw i q=true):au s q=none:=by
 have ho:bL (get s.env i)=false:=by rw[hi]; rfl
 obtain⟨h1,h2⟩:=dM ho;cases q with
 |s j=>simp only[bw,decide_eq_true_eq] at hq; subst hq; exact h1
 |sc j l=>simp only[bw,decide_eq_true_eq] at hq; subst hq; exact h2 l
 |c b j=>simp[bw] at hq
mutual
theorem iM {o o':Rt->Option (Nat × List AV)} {nb I9:Nat} (ho:∀p,(o p).isSome->o' p=o p) (hn:nb<=I9):∀x,cB o nb x->cB o' I9 x
 |.dz k p off len,h=>by simp only[cB] at h ⊢; obtain⟨xs,e,h2⟩:=h; exact⟨xs,by rw[ho p (by rw[e]; rfl)]; exact e,h2⟩
 |.eV k p i off,h=>by simp only[cB] at h ⊢; obtain⟨xs,e,h2⟩:=h; exact⟨xs,by rw[ho p (by rw[e]; rfl)]; exact e,h2⟩
 |.ptr b off,h=>by simp only[cB] at h ⊢; omega
 |.agg cs,h=>by simp only[cB] at h ⊢; exact wK ho hn cs h
 |.dF cs,h=>by simp only[cB] at h ⊢; exact wK ho hn cs h
 |.func f a b,h=>by simp only[cB] at h ⊢; exact⟨wK ho hn a h.1,wK ho hn b h.2.1,h.2.2⟩
 |.any,_=>trivial
 |.undef,_=>trivial
 |.fo,_=>trivial
 |.fv,_=>trivial
 |.dp,_=>trivial
 |.int _ _,_=>trivial
 |.bool _,_=>trivial
 |.str _,_=>trivial
 |.list _ _,_=>trivial
 |.dh _,_=>trivial
 |.own _ _,_=>trivial
 |.sl _ b _ _,h=>by simp only[cB] at h ⊢; omega
theorem wK {o o':Rt->Option (Nat × List AV)} {nb I9:Nat} (ho:∀p,(o p).isSome->o' p=o p) (hn:nb<=I9):∀cs,jZ o nb cs->jZ o' I9 cs
 |[],_=>trivial
 |x::r,h=>⟨iM ho hn x h.1,wK ho hn r h.2⟩
end
theorem er.putG (h:er X φ w N s Ha t) {i:Nat} (hi:get s.env i=.any) (ep:N'.β=N.β) (hN:∀p,bw i p=false->N'.ν p=N.ν p) (hv:cB (au s) s.H.length v) (rv:bF (Rd X φ w) φ (jY N' i v) v')
  (eM:∀p k xs,bw i p=true->au ⟨put s.env i v,s.H⟩ p=some (k,xs)->qV Ha (N'.ν p) k xs/\∀ n,N'.ν p=some n->(∀q,(au s q).isSome->N.ν q≠some n)/\(∀b,(aJ s.H b).isSome->N.β b≠n)/\∀ q,bw i q=true->(au ⟨put s.env i v,s.H⟩ q).isSome->N'.ν q=some n->q=p) :
  er X φ w N' ⟨put s.env i v,s.H⟩ Ha (fun j=>if j=i then v' else t j):=by
 have HQ:∀{p},(au s p).isSome->bw i p=false:=by
  intro p hp;cases e:bw i p with
  |false=>rfl
  |true=>rw[UP hi e] at hp; cases hp
 have mono:∀p,(au s p).isSome->au ⟨put s.env i v,s.H⟩ p=au s p:=fun p hp=>ny hi (HQ hp);refine⟨fun j=>?_,fun j=>?_,h.heap,fun p k xs e=>?_,fun b cs e=>?_,fun p q n e1 e2 e3 e4=>?_,fun b p e1 e2 e3=>?_,fun b d e1 e2 e3=>?_⟩
 ·simp only[bD];by_cases hj:j=i
  ·subst hj; simp only[if_true]; exact rv
  ·simp only[if_neg hj];rw[VJ ep (hN _ (by simp[bw,hj])) (fun l=>hN _ (by simp[bw,hj])) (fun p hp=>hN p (HQ (h.dz (r:=.s j) rfl p hp)))];exact h.env j
 ·simp only[bD];by_cases hj:j=i
  ·rw[if_pos hj]; exact iM mono (aI _) v hv
  ·rw[if_neg hj]; exact iM mono (aI _) _ (h.Ea j)
 ·cases hp:bw i p with
  |true=>exact (eM p k xs hp e).1
  |false=>rw[ny hi hp] at e; rw[hN p hp]; exact h.own p k xs e
 ·obtain⟨as,g1,g2,g3⟩:=h.box b cs e;refine⟨as,by rw[ep]; exact g1,g2,fun j c hc=>?_⟩;obtain⟨k1,a,k2,k3⟩:=g3 j c hc;refine⟨iM mono (aI _) c k1,a,k2,?_⟩;rw[Im ep (fun _ _ _=>hN _ rfl) (fun p hp=>hN p (HQ (h.dz (r:=.c b j) (by rw[xh (s:=s) e]; exact hc) p hp)))];exact k3
 ·cases hp:bw i p with
  |true=>
    obtain⟨⟨k,xs⟩,e⟩:=aR.1 e1;obtain⟨_,h2⟩:=eM p k xs hp e;obtain⟨f1,f2,f3⟩:=h2 n e3;cases hq:bw i q with
    |true=>exact (f3 q hq e2 e4).symm
    |false=>rw[ny hi hq] at e2; rw[hN q hq] at e4; exact absurd e4 (f1 q e2)
  |false=>
    cases hq:bw i q with
    |true=>
      obtain⟨⟨k,xs⟩,e⟩:=aR.1 e2;obtain⟨_,h2⟩:=eM q k xs hq e;obtain⟨f1,f2,f3⟩:=h2 n e4;rw[ny hi hp] at e1;rw[hN p hp] at e3;exact absurd e3 (f1 p e1)
    |false=>
      rw[ny hi hp] at e1;rw[ny hi hq] at e2;rw[hN p hp] at e3;rw[hN q hq] at e4;exact h.inj p q n e1 e2 e3 e4
 ·rw[ep] at e3;cases hp:bw i p with
  |true=>
    obtain⟨⟨k,xs⟩,e⟩:=aR.1 e2;obtain⟨_,h2⟩:=eM p k xs hp e;exact (h2 _ e3).2.1 b e1 rfl
  |false=>rw[ny hi hp] at e2; rw[hN p hp] at e3; exact h.bx b p e1 e2 e3
 ·rw[ep] at e3; exact h.bi b d e1 e2 e3
theorem dQ.quiet (h:er X φ w N s Ha t) (hb:(∀b,b<base->N.β b=B b)/\base<=s.H.length) (hv:cB (au s) s.H.length v) (he:EO v) (r:bF (Rd X φ w) φ (vZ N v) v'):dQ X φ w B base s v t v':=by
 refine⟨⟨N,Ha,h,hb⟩,hv,fun i hi=>?_⟩
 have HQ:∀{p},(au s p).isSome->bw i p=false:=by
  intro p hp;cases e:bw i p with
  |false=>rfl
  |true=>rw[UP hi e] at hp; cases hp
 obtain⟨N',ep,hN1,hN2⟩:∃N':Names,N'.β=N.β/\(∀p,bw i p=false->N'.ν p=N.ν p)/\∀ p,bw i p=true->N'.ν p=none:=⟨⟨N.β,fun p=>if bw i p then none else N.ν p⟩,rfl,fun p hp=>by simp[hp],fun p hp=>by simp[hp]⟩;have hvb:∀p∈aK v,N'.ν p=N.ν p:=fun p hp=>hN1 p (HQ (BW v hv p hp))
 have e1:jY N' i v=vZ N v:=by
  cases v<;>simp only[jY,vZ,iJ]<;>try exact EH ep hvb
  ·rename_i cs;congr 1;apply dy;intro j;rw[fE,od];simp only[fg];cases hc:cs[j]? with
   |none=>rfl
   |some c=>
     simp only[cj];congr 1;have hcb:∀p∈aK c,N'.ν p=N.ν p:=fun p hp=>hvb p (by simp only[aK]; exact kB hc hp);cases c<;>simp only[iJ,fV]<;>try exact EH ep hcb
     simp only[rA,hN2 (.sc i j) (by simp[bw])]
  ·simp only[rA,hN2 (.s i) (by simp[bw])]
 refine⟨N',Ha,h.putG hi ep hN1 hv (by rw[e1]; exact r) (fun p k xs hp e=>?_),fun b bQ=>by rw[ep]; exact hb.1 b bQ,hb.2⟩;rw[hN2 p hp];refine⟨?_,fun n e=>by cases e⟩;have e':=bY.1 e;cases p with
 |s j=>
   simp only[bw,decide_eq_true_eq] at hp;subst hp;simp only[at_,bD,if_true,af] at e';rw[e'] at he;exact he
 |sc j l=>
   simp only[bw,decide_eq_true_eq] at hp;subst hp;simp only[at_,bD,if_true] at e';cases v<;>simp only[reduceCtorEq] at e'
   exact he l k xs e'
 |c b j=>simp[bw] at hp
theorem dQ.fresh (h:er X φ w N s Ha t) (hb:(∀b,b<base->N.β b=B b)/\base<=s.H.length) {k n:Nat} {xs:List AV} (ho:qV Ha (some n) k xs) (hf:∀q,(au s q).isSome->N.ν q≠some n) (hx:∀b,(aJ s.H b).isSome->N.β b≠n) (r:bF (Rd X φ w) φ (.sl k n 0 xs.length) v') :
  dQ X φ w B base s (.own k xs) t v':=by
 refine⟨⟨N,Ha,h,hb⟩,trivial,fun i hi=>?_⟩
 obtain⟨N',ep,hN1,hN2⟩:∃N':Names,N'.β=N.β/\(∀p,bw i p=false->N'.ν p=N.ν p)/\N'.ν (.s i)=some n:=⟨⟨N.β,fun p=>if p=.s i then some n else N.ν p⟩,rfl,fun p hp=>by
  have:p≠.s i:=by rintro rfl; simp[bw] at hp
  simp[this],by simp⟩
 have only:∀p,bw i p=true->(au ⟨Am.put s.env i (.own k xs),s.H⟩ p).isSome->p=.s i:=by
  intro p hp e;cases p with
  |s j=>simp only[bw,decide_eq_true_eq] at hp; rw[hp]
  |sc j l=>
    simp only[bw,decide_eq_true_eq] at hp;subst hp;unfold au at e;simp[at_,bD] at e
  |c b j=>simp[bw] at hp
 refine⟨N',Ha,h.putG hi ep hN1 trivial (by simp only[jY,iJ,rA,hN2]; exact r) (fun p k' ys hp e=>?_),fun b bQ=>by rw[ep]; exact hb.1 b bQ,hb.2⟩;have vP:=only p hp (by rw[e]; rfl);subst vP;have e':=bY.1 e;simp only[at_,bD,if_true,af,AV.own.injEq] at e';obtain⟨rfl,rfl⟩:=e';rw[hN2];refine⟨ho,fun m hm=>?_⟩;cases hm;exact⟨hf,hx,fun q hq e _=>only q hq e⟩
theorem er.nO {φ':cZ} {w':World} {Ha':Heap} (h:er X φ w N s Ha t) (a:eW φ w φ' w') (hh:bV X φ' w' Ha') (ho:∀p k xs,au s p=some (k,xs)->qV Ha' (N.ν p) k xs) (hb:∀b,(aJ s.H b).isSome->aJ Ha' (N.β b)=aJ Ha (N.β b)):er X φ' w' N s Ha' t:=
 ⟨fun i=>a.rep (h.env i),h.Ea,hh,ho,fun b cs e=>by
  obtain⟨as,g1,g2,g3⟩:=h.box b cs e;exact⟨as,by rw[hb b (by rw[e]; rfl)]; exact g1,g2,g3⟩,h.inj,h.bx,h.bi⟩
theorem qV.same {H H':Heap} {o:Option Nat} {k:Nat} {xs:List AV} (h:qV H o k xs) (hb:∀n,o=some n->aJ H' n=aJ H n):qV H' o k xs:=by
 cases o with
 |none=>exact h
 |some n=>
   obtain⟨cs,h1,h2⟩:=h;exact⟨cs,by rw[hb n rfl]; exact h1,h2⟩
theorem qV.lt {H:Heap} {n k:Nat} {xs:List AV} (h:qV H (some n) k xs):n<H.length:=by
 obtain⟨cs,h1,_⟩:=h;exact dx h1
theorem er.gU (h:er X φ w N s Ha t) {p:Rt} (hp:(au s p).isSome) {n:Nat} (hn:N.ν p=some n):n<Ha.length:=by
 obtain⟨⟨k,xs⟩,e⟩:=aR.1 hp;have:=h.own p k xs e;rw[hn] at this;exact this.lt
theorem er.sY (h:er X φ w N s Ha t) {b:Nat} (hb:(aJ s.H b).isSome):N.β b<Ha.length:=by
 obtain⟨cs,e⟩:=aR.1 hb;obtain⟨as,g1,_⟩:=h.box b cs e;exact dx g1
theorem er.push {φ':cZ} {w':World} {cs:List AV} (h:er X φ w N s Ha t) (a:eW φ w φ' w') (hh:bV X φ' w' (Ha++[some cs])):er X φ' w' N s (Ha++[some cs]) t:=by
 refine h.nO a hh (fun p k xs e=>?_) (fun b hb=>?_)
 ·refine (h.own p k xs e).same fun n hn=>?_;rw[fH,if_neg];have:=h.gU (by rw[e]; rfl) hn;omega
 ·rw[fH,if_neg];have:=h.sY hb;omega
theorem Hc (H:Heap) (cs:List AV):aJ (H++[some cs]) H.length=some cs:=by rw[fH,if_pos rfl]
end
end Go.Bm

/- Operations that make blocks and boxes. -/
namespace Go.Bm
open Go.Am
mutual
theorem xF {N N':Names} {o:Rt->Option (Nat × List AV)} {nb:Nat} (ep:∀b,b<nb->N'.β b=N.β b) (kL:∀p,(o p).isSome->N'.ν p=N.ν p):∀x,cB o nb x->cC N' x=cC N x
 |.dz k p a l,h=>by simp only[cB] at h; obtain⟨xs,e,_⟩:=h; simp only[cC,kL p (by rw[e]; rfl)]
 |.eV k p a l,h=>by simp only[cB] at h; obtain⟨xs,e,_⟩:=h; simp only[cC,kL p (by rw[e]; rfl)]
 |.ptr b off,h=>by simp only[cB] at h; simp only[cC,ep b h]
 |.agg cs,h=>by simp only[cB] at h; simp only[cC,q7 ep kL cs h]
 |.dF cs,h=>by simp only[cB] at h; simp only[cC,q7 ep kL cs h]
 |.func f a b,h=>by simp only[cB] at h; simp only[cC,q7 ep kL a h.1,q7 ep kL b h.2.1]
 |.any,_=>rfl
 |.undef,_=>rfl
 |.fo,_=>rfl
 |.fv,_=>rfl
 |.dp,_=>rfl
 |.int _ _,_=>rfl
 |.bool _,_=>rfl
 |.str _,_=>rfl
 |.list _ _,_=>rfl
 |.dh _,_=>rfl
 |.own _ _,_=>rfl
 |.sl _ b _ _,h=>by simp only[cB] at h; simp only[cC,ep b h]
theorem q7 {N N':Names} {o:Rt->Option (Nat × List AV)} {nb:Nat} (ep:∀b,b<nb->N'.β b=N.β b) (kL:∀p,(o p).isSome->N'.ν p=N.ν p):∀cs,jZ o nb cs->kj N' cs=kj N cs
 |[],_=>rfl
 |x::r,h=>by simp only[kj,xF ep kL x h.1,q7 ep kL r h.2]
end
theorem tS {N N':Names} {o:Rt->Option (Nat × List AV)} {nb:Nat} (ep:∀b,b<nb->N'.β b=N.β b) (kL:∀p,(o p).isSome->N'.ν p=N.ν p) {r:Rt} {x:AV} (hr:∀k xs,x=.own k xs->N'.ν r=N.ν r) (h:cB o nb x):iJ N' r x=iJ N r x:=by
 cases x<;>simp only[iJ]<;>first|exact xF ep kL _ h|skip
 rename_i k xs;simp only[rA,hr k xs rfl]
theorem zf {N N':Names} {o:Rt->Option (Nat × List AV)} {nb:Nat} (ep:∀b,b<nb->N'.β b=N.β b) (kL:∀p,(o p).isSome->N'.ν p=N.ν p) {i:Nat} {x:AV} (h1:N'.ν (.s i)=N.ν (.s i)) (h2:∀j,N'.ν (.sc i j)=N.ν (.sc i j)) (h:cB o nb x):jY N' i x=jY N i x:=by
 by_cases ha:∃cs,x=.agg cs
 ·obtain⟨cs,rfl⟩:=ha;simp only[jY];congr 1;apply dy;intro j;rw[fE,fE];simp only[fg];cases hc:cs[j]? with
  |none=>rfl
  |some c=>
    simp only[cj];simp only[cB] at h;rw[tS ep kL (fun _ _ _=>h2 j) (fO.1 h j c hc)]
 ·have hn:jd x:=fun cs e=>ha ⟨cs,e⟩;have e1:jY N' i x=iJ N' (.s i) x:=by cases x<;>first|rfl|exact absurd rfl (hn _)
  have e2:jY N i x=iJ N (.s i) x:=by cases x<;>first|rfl|exact absurd rfl (hn _)
  rw[e1,e2];exact tS ep kL (fun _ _ _=>h1) h
mutual
theorem kg (N:Names):∀x,pl x=true->cC N x=x
 |.agg cs,h=>by simp only[pl] at h; simp only[cC,EE N cs h]
 |.dF cs,h=>by simp only[pl] at h; simp only[cC,EE N cs h]
 |.func f a b,h=>by simp only[pl,ae] at h; simp only[cC,EE N a h.2.1,EE N b h.2.2]
 |.any,_=>rfl
 |.undef,_=>rfl
 |.fo,_=>rfl
 |.fv,_=>rfl
 |.dp,_=>rfl
 |.int _ _,_=>rfl
 |.bool _,_=>rfl
 |.str _,_=>rfl
 |.list _ _,_=>rfl
 |.dh _,_=>rfl
 |.own _ _,h=>by simp[pl] at h
 |.dz _ _ _ _,h=>by simp[pl] at h
 |.eV _ _ _ _,h=>by simp[pl] at h
 |.ptr _ _,h=>by simp[pl] at h
 |.sl _ _ _ _,h=>by simp[pl] at h
theorem EE (N:Names):∀cs,eE cs=true->kj N cs=cs
 |[],_=>rfl
 |x::r,h=>by simp only[eE,ae] at h; simp only[kj,kg N x h.1,EE N r h.2]
end
theorem T3 (N:Names) {c:AV} (h:fz (gq c)=true) (he:∀k xs,c=.own k xs->xs=[]):Le (gq c) (fV N c):=by
 cases c<;>simp only[gq] at h ⊢<;>first
  | (have := (lG h).1
     simp only[fV];rw[kg N _ this];exact Le.refl _)
  |skip
 rename_i k xs;have:=he k xs rfl;subst this;exact Le.gq k
section
variable {P:Program} {X:Nat->Prop} {φ φ':cZ} {w w':World} {N N':Names} {s s1:St} {Ha:Heap} {t:Nat->Value} {B:Nat->Nat} {base:Nat} {v:AV} {v':Value} {c:dO} {o:Oper} {a:Act}
theorem er.Kv {zs as:List AV} (h:er X φ w N s Ha t) (ad:eW φ w φ' w') (hh:bV X φ' w' (Ha++[some as])) (hz:jZ (au s) s.H.length zs) (he:UT zs) (has:as=gM N zs) :
  ∃ N',(∀b,b<s.H.length->N'.β b=N.β b)/\N'.β s.H.length=Ha.length/\er X φ' w' N' ⟨s.env,s.H++[some zs]⟩ (Ha++[some as]) t:=by
 have h1:=h.push ad hh
 obtain⟨N',ep,Zu,hN1,hN2⟩:∃N':Names,(∀b,b<s.H.length->N'.β b=N.β b)/\N'.β s.H.length=Ha.length/\(∀p,(∀j,p≠.c s.H.length j)->N'.ν p=N.ν p)/\∀ j,N'.ν (.c s.H.length j)=none:=
  ⟨⟨fun b=>if b=s.H.length then Ha.length else N.β b,fun p=>match p with
   |.c b j=>if b=s.H.length then none else N.ν (.c b j)
   |p=>N.ν p⟩,fun b hb=>by simp; omega,by simp,fun p hp=>by
     cases p with
     |s i=>rfl
     |sc i j=>rfl
     |c b j=>
       have:b≠s.H.length:=fun e=>hp j (by rw[e]);simp[this],fun j=>by simp⟩
 have atq:∀q,(∀j,q≠.c s.H.length j)->at_ ⟨s.env,s.H++[some zs]⟩ q=at_ s q:=by
  intro q hq;cases q with
  |s i=>rfl
  |sc i j=>rfl
  |c b j=>
    have:b≠s.H.length:=fun e=>hq j (by rw[e]);simp only[at_,fH,if_neg this]
 have atn:∀j,at_ ⟨s.env,s.H++[some zs]⟩ (.c s.H.length j)=zs[j]?:=fun j=>by simp only[at_,fH,if_true]
 have HQ:∀{q},(au s q).isSome->∀j,q≠.c s.H.length j:=by
  rintro q hq j rfl;unfold au at hq
  have:aJ s.H s.H.length=none:=by
   cases e:aJ s.H s.H.length with
   |none=>rfl
   |some cs=>have:=dx e; omega
  simp[at_,this] at hq
 have mono:∀p,(au s p).isSome->au ⟨s.env,s.H++[some zs]⟩ p=au s p:=fun p hp=>gN (atq p (HQ hp));have kL:∀p,(au s p).isSome->N'.ν p=N.ν p:=fun p hp=>hN1 p (HQ hp);have hlen:s.H.length<=(s.H++[some zs]).length:=by simp
 have adN:∀{q k xs},au ⟨s.env,s.H++[some zs]⟩ q=some (k,xs)->(au s q=some (k,xs))\/((∃j,q=.c s.H.length j)/\xs=[]):=by
  intro q k xs e;by_cases hq:∃j,q=.c s.H.length j
  ·obtain⟨j,rfl⟩:=hq;have e':=bY.1 e;rw[atn] at e';exact .inr ⟨⟨j,rfl⟩,he j k xs e'⟩
  ·rw[gN (atq q fun j e=>hq ⟨j,e⟩)] at e;exact .inl e
 have EK:∀{q n},(au ⟨s.env,s.H++[some zs]⟩ q).isSome->N'.ν q=some n->(au s q).isSome/\N.ν q=some n:=by
  intro q n hq hn;obtain⟨⟨k,xs⟩,e⟩:=aR.1 hq;rcases adN e with e1|⟨⟨j,rfl⟩,_⟩
  ·have:(au s q).isSome:=by rw[e1]; rfl
   exact⟨this,by rw[<-kL q this]; exact hn⟩
  ·rw[hN2] at hn; cases hn
 have bold:∀{b},(aJ (s.H++[some zs]) b).isSome->(b<s.H.length/\(aJ s.H b).isSome)\/b=s.H.length:=by
  intro b hb;rw[fH] at hb;by_cases e:b=s.H.length
  ·exact .inr e
  ·rw[if_neg e] at hb;obtain⟨cs,e2⟩:=aR.1 hb;exact .inl ⟨dx e2,hb⟩
 refine⟨N',ep,Zu,⟨fun i=>?_,fun i=>iM mono hlen _ (h1.Ea i),hh,fun p k xs e=>?_,fun b cs e=>?_,fun p q n e1 e2 e3 e4=>?_,fun b p e1 e2 e3=>?_,fun b d e1 e2 e3=>?_⟩⟩
 ·rw[zf ep kL (hN1 _ (fun j e=>by cases e)) (fun l=>hN1 _ (fun j e=>by cases e)) (h1.Ea i)];exact h1.env i
 ·rcases adN e with e1|⟨⟨j,rfl⟩,rfl⟩
  ·rw[kL p (by rw[e1]; rfl)]; exact h1.own p k xs e1
  ·rw[hN2]; rfl
 ·by_cases hb:b=s.H.length
  ·subst hb;simp only[fH,if_true,af] at e;subst e;refine⟨as,by rw[Zu]; exact Hc _ _,by rw[has,iw],fun j x hx=>⟨iM mono hlen x (fO.1 hz j x hx),fV N x,by rw[has,od,hx]; rfl,?_⟩⟩;have hxk:=fO.1 hz j x hx;cases x<;>simp only[iJ,fV]<;>try (rw[xF ep kL _ hxk]; exact Le.refl _)
   simp only[rA,hN2];exact Le.refl _
  ·simp only[fH,if_neg hb] at e;obtain⟨as',g1,g2,g3⟩:=h1.box b cs e;refine⟨as',by rw[ep b (dx e)]; exact g1,g2,fun j x hx=>?_⟩;obtain⟨k1,a',k2,k3⟩:=g3 j x hx;refine⟨iM mono hlen x k1,a',k2,?_⟩;rw[tS ep kL (fun _ _ _=>hN1 _ (fun l e=>by cases e; exact hb rfl)) k1];exact k3
 ·obtain⟨p1,p2⟩:=EK e1 e3;obtain⟨q1,q2⟩:=EK e2 e4;exact h1.inj p q n p1 q1 p2 q2
 ·obtain⟨p1,p2⟩:=EK e2 e3;rcases bold e1 with⟨b1,b2⟩|b1
  ·rw[ep b b1] at p2; exact h1.bx b p b2 p1 p2
  ·subst b1;rw[Zu] at p2;have:=h.gU p1 p2;omega
 ·rcases bold e1 with⟨b1,b2⟩|b1<;>rcases bold e2 with⟨d1,d2⟩|d1
  ·rw[ep b b1,ep d d1] at e3; exact h1.bi b d b2 d2 e3
  ·subst d1; rw[ep b b1,Zu] at e3; have:=h.sY b2; omega
  ·subst b1; rw[ep d d1,Zu] at e3; have:=h.sY d2; omega
  ·rw[b1,d1]
def tm (a:Act):Nat->Value:=fun i=>a.tmps.getD i undef
def kF (P:Program) (X:Nat->Prop) (φ:cZ) (w:World) (B:Nat->Nat) (base:Nat) (s1:St) (v:AV) (o:Oper) (a:Act):Prop:=
 ∀ (K:Act->World->Prop) (Q:Exit->Act->World->Prop),(∀v' w' φ',dQ X φ' w' B base s1 v (tm a) v'->eW φ w φ' w'->K (a.put o.dst v') w')->o.wp P a w K Q
theorem kF.ghost (ad:eW φ w φ' w) (h:kF P X φ' w B base s1 v o a):kF P X φ w B base s1 v o a:=fun K Q hK=>h K Q fun v' w' pj hp k=>hK v' w' pj hp (ad.trans k)
theorem kF.of {va:AV} {Ha':Heap} (h:Ok P X φ w o a va Ha') (hp:∀v' w' φ',bF (Rd X φ' w') φ' va v'->bV X φ' w' Ha'->eW φ w φ' w'->dQ X φ' w' B base s1 v (tm a) v'):kF P X φ w B base s1 v o a:=
 fun K Q hK=>h K Q fun v' w' φ' r hh ad=>hK v' w' φ' (hp v' w' φ' r hh ad) ad
def gb (c:dO):Am.dO:=⟨fun _=>none,c.gl,fun _=>none⟩
theorem afR (hm:P.follows .mixedOrders=true) (c:dO):Am.OX P (gb c):=⟨hm,fun f m q h=>by cases h⟩
def noC:Nat->List AV->Heap->Option (AV × Heap):=fun _ _ _=>none
theorem aar (c:dO):Am.CG P (gb c) noC:=fun f m q h=>by cases h
end
end Go.Bm

/- Operations that read, and that make blocks and boxes: from the model. -/
namespace Go.Bm
open Go.Am
theorem jV:∀(a b:List AV),aA (a++b)=aA a++aA b
 |[],b=>rfl
 |x::r,b=>by simp[aA,jV r b]
theorem On (k:Nat):∀(n:Nat) (ys:List AV),n*k<=ys.length->aA (KW k n ys)=ys.take (n*k)
 |0,ys,_=>by simp[KW,aA]
 |n+1,ys,h=>by
   have h':n*k+k<=ys.length:=by rw[ct] at h; omega
   simp only[KW,aA,tF];rw[On k n (ys.drop k) (by rw[dT]; omega),ct,Nat.one_mul,Nat.add_comm,List.take_add]
theorem Om (e:AV):∀n,aA (aT n e)=rep e.cells n
 |0=>rfl
 |n+1=>by simp[List.replicate_succ,aA,rep,Om e n]
theorem tU (f:AV->AV) (zs:List AV):∀n,rep (zs.map f) n=(rep zs n).map f
 |0=>rfl
 |n+1=>by simp[rep,tU f zs n]
theorem Ke (zs:List AV):∀n,(rep zs n).length=n*zs.length
 |0=>by simp[rep]
 |n+1=>by simp[rep,Ke zs n,ct]; omega
theorem xL {zs:List AV} {x:AV}:∀{n:Nat},x∈rep zs n->x∈zs
 |0,h=>by simp[rep] at h
 |n+1,h=>by
   simp only[rep,aD] at h;rcases h with h|h
   ·exact h
   ·exact xL h
theorem nU:∀{cs:List AV},K0 cs=true->∀x∈cs,fz x=true
 |[],_,x,hx=>by simp at hx
 |y::r,h,x,hx=>by
   simp only[K0,ae] at h;rcases aO.1 hx with e|e
   ·subst e; exact h.1
   ·exact nU h.2 x e
theorem Ec {o:Rt->Option (Nat × List AV)} {nb:Nat}:∀{cs:List AV},jZ o nb cs->∀x∈cs,cB o nb x
 |[],_,x,hx=>by simp at hx
 |y::r,h,x,hx=>by
   rcases aO.1 hx with e|e
   ·subst e; exact h.1
   ·exact Ec h.2 x e
theorem zy {o:Rt->Option (Nat × List AV)} {nb:Nat}:∀{cs:List AV},(∀x∈cs,cB o nb x)->jZ o nb cs
 |[],_=>trivial
 |y::r,h=>⟨h y (by simp),zy fun x hx=>h x (by simp[hx])⟩
theorem JN:∀{vs:List Value} {xs:List AV},rL vs xs=true->xs.length=vs.length
 |[],[],_=>rfl
 |[],_::_,h=>by simp[rL] at h
 |_::_,[],h=>by simp[rL] at h
 |v::r,x::s,h=>by simp only[rL,ae] at h; simp[JN h.2]
theorem acK:∀{zs:List AV},mW (uk zs)=true->bq (uk zs)=true->∀z∈zs,fz (gq z)=true
 |[],_,_,z,hz=>by simp at hz
 |x::r,h1,h2,z,hz=>by
   simp only[uk,mW,bq,ae] at h1 h2;rcases aO.1 hz with e|e
   ·subst e;rcases dn_c (A9 h1.1) with⟨k,rfl,e⟩|⟨hc,e⟩
    ·rfl
    ·rw[e] at h1 h2;have h1':=h1.1;have QG:=h2.1;cases z<;>first|rfl|(simp[zO] at h1'; done)|(simp[AV.leaf] at QG; done)
   ·exact acK h1.2 h2.2 z e
theorem XH {R:Addr->Value->Prop} {φ:cZ} {x:AV} {v:Value} (h:bF R φ x v):φ=[]->pl x=true:=by
 have all:∀{cs:List AV} {vs:Array Value},cs.length=vs.size->(∀(i:Nat) (c:AV) (v:Value),cs[i]?=some c->vs[i]?=some v->pl c=true)->eE cs=true:=by
  intro cs
  induction cs with
  |nil=>intro vs _ _; rfl
  |cons x r ih=>
    intro vs hl h;simp only[eE,ae];obtain⟨u,hu⟩:=bW (l:=vs) (i:=0) (by simp at hl; omega);refine⟨h 0 x u rfl hu,ih (vs:=vs.extract 1 vs.size) (by simp at hl ⊢; omega) fun i c v hc hv=>?_⟩;refine h (i+1) c v (by simpa using hc) ?_;rw[Array.getElem?_extract] at hv;split at hv
    ·rwa [Nat.add_comm] at hv
    ·cases hv
 induction h with
 |agg φ cs vs hl h ih=>intro e; simp only[pl]; exact all hl fun i c v h1 h2=>ih i c v h1 h2 e
 |dF φ cs vs hl h ih=>intro e; simp only[pl]; exact all hl fun i c v h1 h2=>ih i c v h1 h2 e
 |zC φ b a hb ho=>intro e; subst e; simp at hb
 |func φ f as va bs vb hy zT zS ha hb Zt Wj=>intro e; simp only[pl,ae,Bool.not_eq_true']; exact⟨hy,all zT fun i c v h1 h2=>Zt i c v h1 h2 e,all zS fun i c v h1 h2=>Wj i c v h1 h2 e⟩
 |ptr φ b off a hb h=>intro e; subst e; simp at hb
 |sl φ k b off len a cap hb hc h=>intro e; subst e; simp at hb
 |_=>intro _; rfl
mutual
theorem vv {o:Rt->Option (Nat × List AV)} {nb:Nat}:∀x,pl x=true->cB o nb x
 |.agg cs,h=>by simp only[pl] at h; exact FZ cs h
 |.dF cs,h=>by simp only[pl] at h; exact FZ cs h
 |.func f a b,h=>by simp only[pl,ae] at h; exact⟨FZ a h.2.1,FZ b h.2.2,fun hy=>by rw[hy] at h; exact absurd h.1 (by simp)⟩
 |.any,_=>trivial
 |.undef,_=>trivial
 |.fo,_=>trivial
 |.fv,_=>trivial
 |.dp,_=>trivial
 |.int _ _,_=>trivial
 |.bool _,_=>trivial
 |.str _,_=>trivial
 |.list _ _,_=>trivial
 |.dh _,_=>trivial
 |.own _ _,h=>by simp[pl] at h
 |.dz _ _ _ _,h=>by simp[pl] at h
 |.eV _ _ _ _,h=>by simp[pl] at h
 |.ptr _ _,h=>by simp[pl] at h
 |.sl _ _ _ _,h=>by simp[pl] at h
theorem FZ {o:Rt->Option (Nat × List AV)} {nb:Nat}:∀cs,eE cs=true->jZ o nb cs
 |[],_=>trivial
 |x::r,h=>by simp only[eE,ae] at h; exact⟨vv x h.1,FZ r h.2⟩
end
theorem zW:∀{ds:List AV},bJ ds=false->∀(j k:Nat) (xs:List AV),ds[j]?≠some (.own k xs)
 |[],_,j,k,xs,e=>by simp at e
 |y::r,h,j,k,xs,e=>by
   cases j with
   |zero=>simp at e; subst e; simp[bJ] at h
   |succ j=>exact zW (ds:=r) (by cases y<;>simp[bJ] at h<;>exact h) j k xs (by simpa using e)
theorem lE {x:AV} (h:bL x=false):EO x:=by
 cases x<;>simp only[EO]<;>try (simp[bL] at h; done)
 exact fun j k xs e=>absurd e (zW h j k xs)
theorem XN {ag:Option Nat} {xs ys:List AV} {x:AV} (h:BR ag xs=some x) (hl:xs.length<=ys.length) (hle:∀(i:Nat) (a b:AV),xs[i]?=some a->ys[i]?=some b->Le a b):∃y,BR ag ys=some y/\Le x y:=by
 unfold BR at h ⊢;cases ag with
 |some k=>
   simp only at h ⊢;split at h
   case isFalse=>cases h
   rename_i hk;simp at h;subst h;rw[if_pos (by omega)];refine⟨_,rfl,Le.agg (by simp; omega) fun i a b ha hb=>?_⟩;rw[bE] at ha hb;split at ha
   ·rename_i hi;rw[if_pos hi] at hb;exact hle i a b ha hb
   ·cases ha
 |none=>
   simp only at h ⊢;cases xs with
   |nil=>cases h
   |cons a r=>
     simp at h;subst h;cases ys with
     |nil=>simp at hl
     |cons b r'=>exact⟨b,rfl,hle 0 a b rfl rfl⟩
section
variable {P:Program} {X:Nat->Prop} {φ φ':cZ} {w w':World} {N N':Names} {s s1:St} {Ha Ha':Heap} {t:Nat->Value} {B:Nat->Nat} {base:Nat} {v va:AV} {v':Value} {c:dO} {o:Oper} {a:Act} {kd:Kd}
theorem Ow {t:TypeId} {k:Nat} {zs:List AV} (h1:im P t k=true) (h2:gQ P t zs=true):zs.length=k/\mW zs=true/\bq zs=true:=by
 obtain⟨e,i,z,hu,hi,vT,hk0,hby,N5,O8⟩:=iy h1;unfold gQ at h2;rw[hu] at h2;simp only at h2;refine⟨?_,(tc h2).1,(tc h2).2⟩;unfold pk at h2;rw[hi] at h2;simp only[N5,ae] at h2;have:=JN h2.1;rw[this];simpa using O8
theorem kC (hm:P.follows .mixedOrders=true) (h:er X φ w N s Ha (tm a)) (hg:Am.dH (gb c) X φ w) (hk:cK P o.op kd=true) {fl:Fp} (hs:fu (gb c) noC (Al N s.env) Ha kd=some (va,Ha',fl)):Ok P X φ w o a va Ha':=
 ag3 (afR hm c) (aar c) (fun i=>by rw[mE]; exact h.env i) hg h.heap hk hs
theorem Ty (hm:P.follows .mixedOrders=true) (h:SB X φ w B base s (tm a)) (hg:Am.dH (gb c) X φ w) (hk:cK P o.op (ku kd)=true) (hs:P5 c s.env kd=some v):kF P X φ w B base s v o a:=by
 obtain⟨N,Ha,h,hb⟩:=h;obtain⟨h1,h2,h3⟩:=aeF (cA:=gb c) (call:=noC) h rfl hk hs;refine kF.of (kC hm h hg hk h1) fun v' w' φ' r hh ad=>?_;exact dQ.quiet (h.nO ad hh h.own (fun _ _=>rfl)) hb h2 h3 r
theorem P6 (hm:P.follows .mixedOrders=true) (h:SB X φ w B base s (tm a)) (hg:Am.dH (gb c) X φ w) {zs:List AV} (hk:cK P o.op (ku (.new zs))=true):kF P X φ w B base ⟨s.env,s.H++[some zs]⟩ (.ptr s.H.length 0) o a:=by
 obtain⟨N,Ha,h,hb,hl⟩:=h;obtain⟨t,ht⟩:=acd hk;obtain⟨e1,e2⟩:=Bq N (tc ht).1;refine kF.of (kC hm h hg hk (by simp only[ku,fu]; rfl)) fun v' w' φ' r hh ad=>?_;obtain⟨N',n1,n2,h'⟩:=h.Kv ad hh (AK (tc ht).1) e2 e1;refine dQ.quiet h' ⟨fun b bQ=>by rw[n1 b (by omega)]; exact hb b bQ,by simp; omega⟩ (by simp[cB]) trivial ?_;simp only[vZ,cC,n2];exact r
theorem abj (hm:P.follows .mixedOrders=true) (h:SB X φ w B base s (tm a)) (hg:Am.dH (gb c) X φ w) {x:E} (hk:cK P o.op (ku (.box x))=true) (yd:bq (aY c s.env x).cells=true):kF P X φ w B base ⟨s.env,s.H++[some (aY c s.env x).cells]⟩ (.ptr s.H.length 0) o a:=by
 obtain⟨N,Ha,h,hb,hl⟩:=h;obtain⟨o',ho⟩:=acr hk;have hx:=cq (c:=c) (cA:=gb c) h rfl ho;have hc:=G4 N hx.na;refine kF.of (kC hm h hg hk (by simp only[ku,fu,hx.ev,hc,uy h yd (wI hx.ok),if_true]; rfl)) fun v' w' φ' r hh ad=>?_;obtain⟨N',n1,n2,h'⟩:=h.Kv ad hh (wI hx.ok) hx.UT rfl;refine dQ.quiet h' ⟨fun b bQ=>by rw[n1 b (by omega)]; exact hb b bQ,by simp; omega⟩ (by simp[cB]) trivial ?_;simp only[vZ,cC,n2];exact r
theorem Bi (h:er X φ w N s Ha t) (hb:(∀b,b<base->N.β b=B b)/\base<=s.H.length) (ad:eW φ w φ' w') {cs:List AV} (hh:bV X φ' w' (Ha++[some cs])) {k:Nat} {xs:List AV} (hlen:xs.length*k<=cs.length) (hk:∀x∈xs,x.cells.length=k)
  (hc:∀(i:Nat) (d:AV),(aA xs)[i]?=some d->fz d=true/\∃ e,cs[i]?=some e/\e.leaf=true/\Le d e) (r:bF (Rd X φ' w') φ' (.sl k Ha.length 0 xs.length) v'):dQ X φ' w' B base s (.own k xs) t v':=by
 refine dQ.fresh (h.push ad hh) hb (n:=Ha.length) ⟨cs,Hc _ _,hlen,hk,hc⟩ (fun q hq e=>?_) (fun b hb e=>?_) r
 ·have:=h.gU hq e; omega
 ·have:=h.sY hb; omega
theorem P9 (hm:P.follows .mixedOrders=true) (h:SB X φ w B base s (tm a)) (hg:Am.dH (gb c) X φ w) {k n:Nat} {zs cs:List AV} {ps:List (Nat × Nat × E)} (hk:cK P o.op (ku (.dV k n zs ps))=true) (hf:qN c s.env (rep zs n) ps=some cs) (hz:K0 (cs.map gq)=true) :
  kF P X φ w B base s (.own k (KW k n (cs.map gq))) o a:=by
 obtain⟨N,Ha,h,hb⟩:=h;obtain⟨⟨t,ht1,ht2⟩,hq⟩:=Q8 hk;obtain⟨z1,z2,z3⟩:=Ow ht1 ht2;obtain⟨e1,e2⟩:=Bq N z2;have GA:rep (uk zs) n=gM N (rep zs n):=by rw[e1,td,td,tU]
 have Ck:zs.length=k:=by rw[<-z1,e1,iw]
 have hzok:jZ (au s) s.H.length (rep zs n):=zy fun x hx=>Ec (AK z2) x (xL hx)
 have hzeo:UT (rep zs n):=fun j k' xs hj=>by
  obtain⟨i,hi⟩:=bz (xL (bf hj));exact e2 i k' xs hi
 obtain⟨f1,f2,f3,f4⟩:=sI (cA:=gb c) h rfl hq hzok hzeo hf;have LC:cs.length=n*k:=by rw[f4,Ke,Ck]
 have yd:bq cs=true:=by
  have:∀{l:List AV},(∀x∈l,x.leaf=true)->bq l=true:=by
   intro l
   induction l with
   |nil=>intro _; rfl
   |cons y r ih=>intro h; simp only[bq,ae]; exact⟨h y (by simp),ih fun x hx=>h x (by simp[hx])⟩
  refine this fun x hx=>?_;have:=(lG (nU hz (gq x) (q5 hx))).2;cases x<;>first|exact this|rfl
 have ahn:∀x∈cs,x.leaf=true:=fun x hx=>by
  have:=(lG (nU hz (gq x) (q5 hx))).2;cases x<;>first|exact this|rfl
 refine kF.of (kC hm h hg hk (by simp only[ku,fu,GA,f1,uy h yd f2,if_true]; rfl)) fun v' w' φ' r hh ad=>?_;obtain⟨g1,g2⟩:=GF k n (cs.map gq) (by simp[LC]);refine Bi h hb ad hh (by rw[g1,iw,LC]; omega) (fun x hx=>?_) (fun i d hd=>?_) (by rw[g1]; exact r)
 ·obtain⟨i,hi⟩:=bz hx;obtain⟨q1,q2⟩:=g2 i x hi;rw[q1,bj,dT,cN,LC];have:(i+1)*k<=n*k:=bN k q2;rw[ct] at this;omega
 ·rw[On k n _ (by simp[LC]),<-LC,show (cs.map gq).take cs.length=cs.map gq from List.take_of_length_le (by simp),cJ] at hd;cases hc:cs[i]? with
  |none=>rw[hc] at hd; cases hd
  |some x=>
    rw[hc] at hd;simp at hd;subst hd;have DY:=nU hz (gq x) (q5 (bf hc));exact⟨DY,fV N x,by rw[od,hc]; rfl,KA h (ahn x (bf hc)) (Ec f2 x (bf hc)),T3 N DY (fun k xs e=>f3 i k xs (by rw[hc,e]))⟩
theorem abe (hm:P.follows .mixedOrders=true) (h:SB X φ w B base s (tm a)) (hg:Am.dH (gb c) X φ w) {k:Nat} {zs:List AV} {x y:E} {k1 k2:IntKind} {l cp:Int} (hk:cK P o.op (ku (.Kx k zs x y))=true) (hx:aY c s.env x=.int k1 l) (hy:aY c s.env y=.int k2 cp) (hc:0<=l/\l<=cp/\cp<=(mN:Int)) :
  kF P X φ w B base s (.own k (aT l.toNat (el (zs.map gq)))) o a:=by
 obtain⟨N,Ha,h,hb⟩:=h;obtain⟨⟨t,ht1,ht2⟩,⟨o1,h1⟩,o2,h2⟩:=UD hk;obtain⟨z1,z2,z3⟩:=Ow ht1 ht2;obtain⟨e1,e2⟩:=Bq N z2;have Ck:zs.length=k:=by rw[<-z1,e1,iw]
 have HT:=(cq (c:=c) (cA:=gb c) h rfl h1).int hx;have Gy:=(cq (c:=c) (cA:=gb c) h rfl h2).int hy;refine kF.of (kC hm h hg hk (by simp only[ku,fu,HT,Gy,if_pos hc]; rfl)) fun v' w' φ' r hh ad=>?_;refine Bi h hb ad hh (by rw[cu,Ke,z1]; omega) (fun u hu=>?_) (fun i d hd=>?_) (by rw[cu]; exact r)
 ·rw[List.eq_of_mem_replicate hu,tF,cN,Ck]
 ·rw[Om,tF,tU,cJ] at hd;cases hc':(rep zs l.toNat)[i]? with
  |none=>rw[hc'] at hd; cases hd
  |some z=>
    rw[hc'] at hd;simp at hd;subst hd;have ZG:=xL (bf hc');obtain⟨j,hj⟩:=bz ZG;have heo:∀k xs,z=.own k xs->xs=[]:=fun k xs e=>e2 j k xs (by rw[hj,e]);have DY:fz (gq z)=true:=acK z2 z3 z ZG
    have yd:(fV N z).leaf=true:=by
     have Qy:fV N z∈uk zs:=by rw[e1,td]; exact q5 ZG
     have:∀{l:List AV},bq l=true->∀x∈l,x.leaf=true:=by
      intro l
      induction l with
      |nil=>intro _ x hx; simp at hx
      |cons y r ih=>
        intro q x hx;simp only[bq,ae] at q;rcases aO.1 hx with e|e
        ·subst e; exact q.1
        ·exact ih q.2 x e
     exact this z3 _ Qy
    exact⟨DY,fV N z,by rw[e1]; rw[td,tU,cJ,hc']; rfl,yd,T3 N DY heo⟩
theorem acy {zs z:List AV} (h:WU zs=some z):uk zs=[.dp]/\∃ k,z=[.own k []]:=by
 unfold WU at h;split at h
 case h_2=>cases h
 rename_i k;split at h
 case isFalse=>cases h
 simp at h;exact⟨rfl,_,h.symm⟩
theorem abd (hm:P.follows .mixedOrders=true) (h:SB X φ w B base s (tm a)) (hg:Am.dH (gb c) X φ w) {k:Nat} {zs z:List AV} {x y:E} {k1 k2:IntKind} {l cp:Int} (hk:cK P o.op (ku (.Kx k zs x y))=true) (hz:WU zs=some z) (hx:aY c s.env x=.int k1 l) (hy:aY c s.env y=.int k2 cp) (hc:0<=l/\l<=cp/\cp<=(mN:Int)) :
  kF P X φ w B base ⟨s.env,s.H++[some (rep z l.toNat)]⟩ (.sl k s.H.length 0 l.toNat) o a:=by
 obtain⟨N,Ha,h,hb,hl⟩:=h;obtain⟨_,⟨o1,h1⟩,o2,h2⟩:=UD hk;obtain⟨e1,k',rfl⟩:=acy hz;have HT:=(cq (c:=c) (cA:=gb c) h rfl h1).int hx;have Gy:=(cq (c:=c) (cA:=gb c) h rfl h2).int hy;refine kF.of (kC hm h hg hk (by simp only[ku,fu,HT,Gy,if_pos hc]; rfl)) fun v' w' φ' r hh ad=>?_
 obtain⟨N',n1,n2,h'⟩:=h.Kv (zs:=rep [.own k' []] l.toNat) ad hh (zy fun u hu=>by
  have:=xL hu;simp at this;subst this;exact trivial) (fun j kk xs hj=>by
  have:=xL (bf hj);simp at this;exact this.2) (by rw[e1,td,<-tU]; rfl)
 refine dQ.quiet h' ⟨fun b bQ=>by rw[n1 b (by omega)]; exact hb b bQ,by simp; omega⟩ (by simp[cB]) trivial ?_;simp only[vZ,cC,n2];exact r
theorem adM (h:er X φ w N s Ha (tm a)) (hg:Am.dH (gb c) X φ w) {ag:Option Nat} {x:E} {ps:List Rt} {o':Operand} (ho:cM o' (kN x)=true) (hs:zw s ag (aY c s.env x)=some (v,ps)) :
  ∃ va fl,fu (gb c) noC (Al N s.env) Ha (ku (.ld ag x))=some (va,Ha,fl)/\Le (vZ N v) va/\cB (au s) s.H.length v/\EO v:=by
 have hx:=cq (c:=c) (cA:=gb c) h rfl ho;have cX:=hx.ok
 have fin:∀{va:AV} {fl:Fp},fu (gb c) noC (Al N s.env) Ha (ku (.ld ag x))=some (va,Ha,fl)->Le (vZ N v) va->cB (au s) s.H.length v->EO v->∃va fl,fu (gb c) noC (Al N s.env) Ha (ku (.ld ag x))=some (va,Ha,fl)/\Le (vZ N v) va/\cB (au s) s.H.length v/\EO v:=
  fun e hle h2 h3=>⟨_,_,e,hle,h2,h3⟩
 have rdn:∀{cs:List AV},Kg ag cs=some v->BR ag cs=some v/\bL v=false:=by
  intro cs hu;unfold Kg at hu;split at hu
  case h_2=>cases hu
  rename_i u' hr;split at hu
  ·cases hu
  rename_i gV;simp at hu gV;subst hu;exact⟨hr,gV⟩
 have plrd:∀{cs:List AV},BR ag cs=some v->(∀x∈cs,pl x=true)->pl v=true:=by
  intro cs hr hp;unfold BR at hr;cases ag with
  |some k=>
    simp only at hr;split at hr
    case isFalse=>cases hr
    simp at hr;subst hr;simp only[pl]
    have:∀{l:List AV},(∀x∈l,pl x=true)->eE l=true:=by
     intro l
     induction l with
     |nil=>intro _; rfl
     |cons y r ih=>intro h; simp only[eE,ae]; exact⟨h y (by simp),ih fun x hx=>h x (by simp[hx])⟩
    exact this fun x hx=>hp x (cS hx)
  |none=>
    simp only at hr;cases cs with
    |nil=>cases hr
    |cons y r=>simp at hr; subst hr; exact hp y (by simp)
 unfold zw at hs;cases e:aY c s.env x<;>rw[e] at hs cX<;>try (simp at hs; done)
 ·rename_i cs;simp only at hs;split at hs
  case h_2=>cases hs
  rename_i u hu;simp at hs;obtain⟨rfl,rfl⟩:=hs;obtain⟨hr,gV⟩:=rdn hu;have r:=bO (c:=gb c) (env:=Al N s.env) (a:=a) (fun i=>by rw[mE]; exact h.env i) hg ho;rw[hx.ev,e] at r;simp only[fV,cC] at r
  have mX:∀y∈cs,pl y=true:=by
   intro y hy;obtain⟨j,hj⟩:=bz hy;generalize a.eval o'=z at r;cases r with
   |dh _ _ _ u hu h=>exact XH (h j y hj) rfl
  have hv:=plrd hr mX;refine fin (va:=u) (by simp only[ku,fu,hx.ev,e,fV,cC,hr]; rfl) ?_ (vv _ hv) (lE gV);rw[kI N gV,kg N _ hv];exact Le.refl _
 ·rename_i b off;simp only at hs;split at hs
  case h_2=>cases hs
  rename_i cs dG;split at hs
  case h_2=>cases hs
  rename_i u hu;simp at hs;obtain⟨rfl,rfl⟩:=hs;obtain⟨hr,gV⟩:=rdn hu;obtain⟨as,g1,g2,g3⟩:=h.box b cs dG
  have hokL:jZ (au s) s.H.length (eF (.c b) 0 cs):=by
   refine fO.2 fun j d hd=>?_;rw[Cb] at hd;cases hc:cs[j]? with
   |none=>rw[hc] at hd; cases hd
   |some d0=>
     rw[hc] at hd;simp only[cj,af,fg] at hd;subst hd;split
     ·rename_i k xs;simp only[cB];exact⟨xs,bY.2 (by rw[xh dG]; exact hc),by omega⟩
     ·exact (g3 j _ hc).1
  obtain⟨r1,r2,r3,_⟩:=PW N hu (AO (n:=off) hokL);rw[<-EI,EG] at r1
  obtain⟨va,q1,q2⟩:=XN (ys:=as.drop off) r1 (by simp[fR]; omega) (fun i x y hx hy=>by
   rw[aW,fE] at hx;rw[aW] at hy;simp only[fg] at hx;cases hc:cs[off+i]? with
   |none=>rw[hc] at hx; cases hx
   |some d=>
     rw[hc] at hx;simp at hx;subst hx;obtain⟨_,a',a1,a2⟩:=g3 _ d hc;rw[a1] at hy;cases hy;exact a2)
  exact fin (va:=va) (by simp only[ku,fu,hx.ev,e,fV,cC,g1,q1]; rfl) q2 r2 r3
 ·rename_i k p i off;simp only at hs;split at hs
  case h_2=>cases hs
  rename_i k' xs hp;split at hs
  case isFalse=>cases hs
  rename_i tP;subst tP;split at hs
  case h_2=>cases hs
  rename_i el' hel;split at hs
  case h_2=>cases hs
  rename_i u hu;simp at hs;obtain⟨rfl,rfl⟩:=hs;obtain⟨hr,gV⟩:=rdn hu;obtain⟨n,hn,e2⟩:=FN h cX;have eM:=h.own p k' xs hp;rw[hn] at eM;obtain⟨cs,c1,c2,c3,c4⟩:=eM;have mY:∀(j:Nat) (d:AV),el'.cells[j]?=some d->fz d=true/\∃ a,cs[i*k'+j]?=some a/\Le d a:=fun j d hd=>let ⟨f1,a,f2,_,f3⟩:=c4 _ d (Bj c3 hel hd); ⟨f1,a,f2,f3⟩
  have mX:∀y∈el'.cells.drop off,pl y=true:=by
   intro y hy;obtain⟨j,hj⟩:=bz (cT hy);exact (lG (mY j y hj).1).1
  have hv:=plrd hr mX;have ahG:el'.cells.length=k':=c3 el' (bf hel);have hi:(i+1)*k'<=xs.length*k':=bN k' (ak hel);rw[ct] at hi
  obtain⟨va,q1,q2⟩:=XN (ys:=cs.drop (i*k'+off)) hr (by simp; omega) (fun j x y hx hy=>by
   rw[aW] at hx hy;obtain⟨_,a',a1,a2⟩:=mY _ x hx;rw[show i*k'+(off+j)=i*k'+off+j by omega] at a1;rw[a1] at hy;cases hy;exact a2)
  refine fin (va:=va) (by simp only[ku,fu,hx.ev,e,fV,e2,c1,q1]; rfl) ?_ (vv _ hv) (lE gV);rw[kI N gV,kg N _ hv];exact q2
theorem aeW (hm:P.follows .mixedOrders=true) (h:SB X φ w B base s (tm a)) (hg:Am.dH (gb c) X φ w) {ag:Option Nat} {x:E} {ps:List Rt} (hk:cK P o.op (ku (.ld ag x))=true) (hs:zw s ag (aY c s.env x)=some (v,ps)):kF P X φ w B base s v o a:=by
 obtain⟨N,Ha,h,hb⟩:=h;obtain⟨o',ho⟩:=afL hk;obtain⟨va,fl,e,hle,h2,h3⟩:=adM h hg ho hs;refine kF.of (kC hm h hg hk e) fun v' w' φ' r hh ad=>?_;exact dQ.quiet (h.nO ad hh h.own (fun _ _=>rfl)) hb h2 h3 (hle _ _ _ r)
end
end Go.Bm
