/- The machine by value: what a state stands for. -/
import Derived.Test.YtbnheahpdodmjaaGreatDoorBmA
/- How a state by value stands for a state of the older machine. -/
set_option linter.unusedSimpArgs false
open Bool renaming and_eq_true → ae, or_eq_false_iff → fa
open List renaming ext_getElem? → dN, getElem?_append_left → aq, getElem?_append_right → aM, getElem?_drop → bf, getElem?_eq_none → cE, getElem?_map → cn, getElem?_of_mem → bE, getElem?_set → aR, getElem?_set_ne → cQ, getElem?_take → bP, length_drop → eQ, length_map → aQ, length_replicate → cV, length_take → bw, map_drop → Ar, mem_append → aF, mem_cons → aG, mem_map_of_mem → s8, mem_of_getElem? → bn, mem_of_mem_drop → di, mem_of_mem_take → dh, mem_singleton → cU, replicate → aW
open List.cons renaming injEq → QV
open Nat renaming add_mul → cK, le_refl → aO, mul_le_mul_right → bS, zero_add → fX, zero_mul → qU
open Ne renaming symm → jF
open Option renaming isSome_iff_exists → aU, map_some → cD
open Option.some renaming inj → bm, injEq → af
open Prod.mk renaming injEq → aC
namespace Go.Bm
open Go.Am

structure Names where
 β:Nat->Nat
 ν:Rt->Option Nat

mutual
def cS (N:Names):AV->AV
 |.dP k p off len=>match N.ν p with
   |some n=>.sl k n (off*k) len
   |none=>.du
 |.fv k p i off=>match N.ν p with
   |some n=>.ptr n (i*k+off)
   |none=>.any
 |.ptr b off=>.ptr (N.β b) off
 |.agg cs=>.agg (mR N cs)
 |.dt cs=>.dt (mR N cs)
 |.func f a b=>.func f (mR N a) (mR N b)
 |.own _ _=>.any
 |.sl k b off len=>.sl k (N.β b) off len
 |.any=>.any|.undef=>.undef|.fN=>.fN|.fS=>.fS|.du=>.du
 |.int k n=>.int k n|.bool b=>.bool b|.str s=>.str s
 |.list k xs=>.list k xs|.dy cs=>.dy cs
def mR (N:Names):List AV->List AV
 |[]=>[]
 |x::r=>cS N x::mR N r
end
def rU (N:Names) (p:Rt) (k len:Nat):AV:=
 match N.ν p with
 |some n=>.sl k n 0 len
 |none=>.du
def jx (N:Names) (p:Rt):AV->AV
 |.own k xs=>rU N p k xs.length
 |v=>cS N v
def Vs (N:Names) (f:Nat->Rt):Nat->List AV->List AV
 |_,[]=>[]
 |j,x::r=>jx N (f j) x::Vs N f (j+1) r
def lT (N:Names) (i:Nat):AV->AV
 |.agg cs=>.agg (Vs N (.sc i) 0 cs)
 |v=>jx N (.s i) v
def Dg (N:Names):Env->Env
 |[]=>[]
 |(i,v)::r=>(i,lT N i v)::Dg N r

def Le (x y:AV):Prop:=∀R φ v,bO R φ y v->bO R φ x v
theorem Le.refl (x:AV):Le x x:=fun _ _ _ h=>h
theorem Le.trans {x y z:AV} (h:Le x y) (k:Le y z):Le x z:=fun R φ v r=>h R φ v (k R φ v r)
theorem Le.any (y:AV):Le .any y:=fun _ _ _ _=>.any _ _
theorem Le.agg {xs ys:List AV} (hl:xs.length=ys.length) (h:∀(i:Nat) (x y:AV),xs[i]?=some x->ys[i]?=some y->Le x y):Le (.agg xs) (.agg ys):=by
 intro R φ v r;cases r with
 |agg _ _ vs A4 h2=>
   refine .agg _ _ _ (hl.trans A4) fun i c u hc hu=>?_;obtain⟨y,hy⟩:=bq (l:=ys) (i:=i) (by have:=ak hc; omega);exact h i c y hc hy _ _ _ (h2 i y u hy hu)
theorem Le.eK (k:Nat):Le (.list k []) .du:=by
 intro R φ v r;cases r with
 |du=>exact .lx _ _

mutual
def cP (o:Rt->Option (Nat × List AV)) (nb:Nat):AV->Prop
 |.dP k p off len=>∃xs,o p=some (k,xs)/\off+len<=xs.length
 |.fv k p i _=>∃xs,o p=some (k,xs)/\i<xs.length
 |.ptr b _=>b<nb
 |.agg cs=>mg o nb cs
 |.dt cs=>mg o nb cs
 |.func f a b=>mg o nb a/\mg o nb b/\(Ew f=true->a=[]/\∃ c,b=[.ptr c 0])
 |.sl _ b _ _=>b<nb
 |_=>True
def mg (o:Rt->Option (Nat × List AV)) (nb:Nat):List AV->Prop
 |[]=>True
 |x::r=>cP o nb x/\mg o nb r
end
theorem gE {o:Rt->Option (Nat × List AV)} {nb:Nat}:∀{cs:List AV},mg o nb cs ↔ ∀(i:Nat) (c:AV),cs[i]?=some c->cP o nb c
 |[]=>by simp[mg]
 |x::r=>by
   simp only[mg,gE (cs:=r)];constructor
   ·rintro⟨h1,h2⟩ i c hc;cases i with
    |zero=>simp at hc; exact hc▸h1
    |succ i=>exact h2 i c (by simpa using hc)
   ·intro h;exact⟨h 0 x rfl,fun i c hc=>h (i+1) c (by simpa using hc)⟩

def qQ (H:Heap) (o:Option Nat) (k:Nat) (xs:List AV):Prop:=
 match o with
 |none=>xs=[]
 |some n=>∃cs,aJ H n=some cs/\xs.length*k<=cs.length/\(∀x∈xs,x.cells.length=k)/\∀ (i:Nat) (c:AV),(aA xs)[i]?=some c->fz c=true/\∃ a,cs[i]?=some a/\a.leaf=true/\Le c a

structure eW (X:Nat->Prop) (φ:dj) (w:World) (N:Names) (s:St) (Ha:Heap) (t:Nat->Value):Prop where
 env:∀i,bO (Rd X φ w) φ (lT N i (get s.env i)) (t i)
 Iz:∀i,cP (az s) s.H.length (get s.env i)
 heap:cj X φ w Ha
 own:∀p k xs,az s p=some (k,xs)->qQ Ha (N.ν p) k xs
 box:∀b cs,aJ s.H b=some cs->∃as,aJ Ha (N.β b)=some as/\as.length=cs.length/\∀ (j:Nat) (c:AV),cs[j]?=some c->cP (az s) s.H.length c/\∃ a,as[j]?=some a/\Le (jx N (.c b j) c) a
 inj:∀p q n,(az s p).isSome->(az s q).isSome->N.ν p=some n->N.ν q=some n->p=q
 bx:∀b p,(aJ s.H b).isSome->(az s p).isSome->N.ν p≠some (N.β b)
 bi:∀b c,(aJ s.H b).isSome->(aJ s.H c).isSome->N.β b=N.β c->b=c

/-! Lists and places -/
theorem oB (N:Names):∀(cs:List AV) (i:Nat),(mR N cs)[i]?=(cs[i]?).map (cS N)
 |[],i=>by simp[mR]
 |x::r,i=>by cases i<;>simp[mR,oB N r]
theorem dQ (N:Names):∀cs:List AV,(mR N cs).length=cs.length
 |[]=>rfl
 |x::r=>by simp[mR,dQ N r]
theorem gb (N:Names) (f:Nat->Rt):∀(cs:List AV) (j i:Nat),(Vs N f j cs)[i]?=(cs[i]?).map (jx N (f (j+i)))
 |[],j,i=>by simp[Vs]
 |x::r,j,i=>by
   cases i with
   |zero=>simp[Vs]
   |succ i=>simp only[Vs,List.getElem?_cons_succ,gb N f r]; rw[show j+1+i=j+(i+1) by omega]
theorem gH (N:Names) (f:Nat->Rt):∀(cs:List AV) (j:Nat),(Vs N f j cs).length=cs.length
 |[],j=>rfl
 |x::r,j=>by simp[Vs,gH N f r]
theorem eV (g:AV->AV):∀(cs:List AV) (i:Nat),(dc g cs)[i]?=(cs[i]?).map (cT g)
 |[],i=>by simp[dc]
 |x::r,i=>by cases i<;>simp[dc,eV g r]
theorem cN (g:AV->AV):∀cs:List AV,(dc g cs).length=cs.length
 |[]=>rfl
 |x::r=>by simp[dc,cN g r]
theorem oY (N:Names):∀(e:Env) (i:Nat),get (Dg N e) i=lT N i (get e i)
 |[],i=>rfl
 |(j,u)::r,i=>by
   simp only[Dg,Am.get];split
   ·rename_i h; rw[h]
   ·exact oY N r i
theorem dx (g:AV->AV):∀(e:Env) (i:Nat),get (lZ g e) i=cT g (get e i)
 |[],i=>rfl
 |(j,u)::r,i=>by
   simp only[lZ,Am.get];split
   ·rfl
   ·exact dx g r i
theorem KU (g:AV->AV):∀(H:Heap) (b:Nat),(gn g H)[b]?=(H[b]?).map (Option.map (dc g))
 |[],b=>by simp[gn]
 |none::r,b=>by cases b<;>simp[gn,KU g r]
 |some cs::r,b=>by cases b<;>simp[gn,KU g r]
theorem fM (g:AV->AV):∀H:Heap,(gn g H).length=H.length
 |[]=>rfl
 |none::r=>by simp[gn,fM g r]
 |some cs::r=>by simp[gn,fM g r]
theorem fF (g:AV->AV) (H:Heap) (b:Nat):aJ (gn g H) b=(aJ H b).map (dc g):=by
 unfold aJ;rw[KU];cases H[b]? with
 |none=>rfl
 |some o=>cases o<;>rfl
theorem blk_iff {H:Heap} {b:Nat} {cs:List AV}:aJ H b=some cs ↔ H[b]?=some (some cs):=by
 constructor
 ·exact tR
 ·intro h; unfold aJ; rw[h]
theorem dL {H:Heap} {b:Nat} {cs:List AV} (h:aJ H b=some cs):b<H.length:=ak (tR h)
theorem dz (H:Heap) (b c:Nat) (x:List AV):aJ (H.set b (some x)) c=if c=b/\b<H.length then some x else aJ H c:=by
 unfold aJ;rw[aR];by_cases h:b=c
 ·subst h;by_cases hl:b<H.length
  ·simp[hl]
  ·simp[hl,cE (Nat.le_of_not_lt hl)]
 ·simp[h,jF h]
theorem fE (H:Heap) (x:List AV) (c:Nat):aJ (H++[some x]) c=if c=H.length then some x else aJ H c:=by
 unfold aJ;by_cases h:c<H.length
 ·rw[aq h,if_neg (by omega)]
 ·rw[aM (by omega)];by_cases h2:c=H.length
  ·subst h2; simp
  ·rw[if_neg h2,cE (l:=H) (by omega),cE (by simp; omega)]

def kh (x:AV):Prop:=∀cs,x≠.agg cs
def NOwn (x:AV):Prop:=∀k xs,x≠.own k xs
def lN (g:AV->AV):Prop:=∀k p o l,(kh (g (.dP k p o l))/\NOwn (g (.dP k p o l)))/\(kh (g (.fv k p o l))/\NOwn (g (.fv k p o l)))
theorem zL {g:AV->AV} (hg:lN g) (x:AV) (k:Nat) (xs:List AV):cT g x=.own k xs ↔ x=.own k xs:=by
 cases x<;>simp[cT]
 ·exact (hg _ _ _ _).1.2 _ _
 ·exact (hg _ _ _ _).2.2 _ _
theorem SU {g:AV->AV} (hg:lN g) (x:AV) (cs:List AV):cT g x=.agg cs ↔ ∃ds,x=.agg ds/\dc g ds=cs:=by
 cases x<;>simp[cT]
 ·exact (hg _ _ _ _).1.1 _
 ·exact (hg _ _ _ _).2.1 _
theorem nS {g:AV->AV} (hg:lN g) {x:AV} (h:kh x):kh (cT g x):=by
 intro cs e;obtain⟨ds,rfl,_⟩:=(SU hg x cs).1 e;exact h _ rfl
theorem jT {g:AV->AV} (hg:lN g) (s:St) (p:Rt):at_ (cB g s) p=(at_ s p).map (cT g):=by
 cases p with
 |s i=>simp[at_,cB,dx]
 |sc i j=>
   simp only[at_,cB,dx];generalize get s.env i=x;split
   ·rename_i cs h;obtain⟨ds,rfl,rfl⟩:=(SU hg x cs).1 h;simp[eV]
   ·rename_i h;split
    ·rename_i ds;exact absurd rfl (h (dc g ds))
    ·rfl
 |c b j=>
   simp only[at_,cB,fF];cases aJ s.H b with
   |none=>rfl
   |some cs=>simp[eV]
theorem cC {s:St} {p:Rt} {k:Nat} {xs:List AV}:az s p=some (k,xs) ↔ at_ s p=some (.own k xs):=by
 unfold az;split
 ·rename_i k' xs' h;rw[h];simp
 ·rename_i h;constructor
  ·intro h'; cases h'
  ·intro h'; exact absurd h' (h k xs)
theorem iO {g:AV->AV} (hg:lN g) (s:St) (p:Rt):az (cB g s) p=az s p:=by
 cases h:az s p with
 |none=>
   cases h2:az (cB g s) p with
   |none=>rfl
   |some y=>
     obtain⟨k,xs⟩:=y;rw[cC,jT hg] at h2;cases hx:at_ s p with
     |none=>rw[hx] at h2; cases h2
     |some x=>
       rw[hx] at h2;simp only[cD,af] at h2;rw[zL hg] at h2;subst h2;rw[cC.2 hx] at h;cases h
 |some y=>
   obtain⟨k,xs⟩:=y;rw[cC] at h ⊢;rw[jT hg,h];rfl

structure Shape (s s':St):Prop where
 agg:∀i cs,get s.env i=.agg cs->∃ds,get s'.env i=.agg ds/\ds.length=cs.length
 We:∀i,kh (get s.env i)->kh (get s'.env i)
 len:s'.H.length=s.H.length
 box:∀b cs,aJ s.H b=some cs->∃ds,aJ s'.H b=some ds/\ds.length=cs.length
 Fw:∀b,aJ s.H b=none->aJ s'.H b=none
theorem Shape.refl (s:St):Shape s s:=⟨fun _ cs h=>⟨cs,h,rfl⟩,fun _ h=>h,rfl,fun _ cs h=>⟨cs,h,rfl⟩,fun _ h=>h⟩
theorem Shape.trans {s s' s'':St} (h:Shape s s') (k:Shape s' s''):Shape s s'':=
 ⟨fun i cs hc=>let ⟨ds,h1,h2⟩:=h.agg i cs hc; let ⟨es,h3,h4⟩:=k.agg i ds h1; ⟨es,h3,h4.trans h2⟩,fun i hi=>k.We i (h.We i hi),k.len.trans h.len,
  fun b cs hc=>let ⟨ds,h1,h2⟩:=h.box b cs hc; let ⟨es,h3,h4⟩:=k.box b ds h1; ⟨es,h3,h4.trans h2⟩,fun b hb=>k.Fw b (h.Fw b hb)⟩
theorem Shape.map {g:AV->AV} (hg:lN g) (s:St):Shape s (cB g s) where
 agg i cs h:=⟨dc g cs,by simp[cB,dx,h,cT],cN g cs⟩
 We i h:=by simp only[cB,dx]; exact nS hg h
 len:=fM g s.H
 box b cs h:=⟨dc g cs,by simp[cB,fF,h],cN g cs⟩
 Fw b h:=by simp[cB,fF,h]
def Lf (s:St) (r:Rt):Prop:=∀i,r=.s i->kh (get s.env i)
def Fits (s:St) (p:Rt) (v:AV):Prop:=kh v/\∃ x,at_ s p=some x/\kh x
theorem Shape.set {s:St} {p:Rt} {v:AV} (h:Fits s p v):Shape s (setAt s p v):=by
 obtain⟨hv,x,hx,hn⟩:=h;cases p with
 |s i=>
   simp only[at_,af] at hx;refine⟨fun j cs hc=>?_,fun j hj=>?_,rfl,fun b cs hc=>⟨cs,hc,rfl⟩,fun b hb=>hb⟩
   ·simp only[setAt,bN];by_cases wR:j=i
    ·subst wR; rw[hx] at hc; exact absurd hc (hn cs)
    ·rw[if_neg wR]; exact⟨cs,hc,rfl⟩
   ·simp only[setAt,bN];by_cases wR:j=i
    ·rw[if_pos wR]; exact hv
    ·rw[if_neg wR]; exact hj
 |sc i l=>
   simp only[at_] at hx;cases hg:get s.env i<;>rw[hg] at hx<;>simp at hx
   rename_i ds;have hs:setAt s (.sc i l) v=⟨put s.env i (.agg (ds.set l v)),s.H⟩:=by simp[setAt,hg]
   rw[hs];refine⟨fun j cs hc=>?_,fun j hj=>?_,rfl,fun b cs hc=>⟨cs,hc,rfl⟩,fun b hb=>hb⟩
   ·simp only[bN];by_cases wR:j=i
    ·subst wR; rw[hg] at hc; cases hc; exact⟨_,if_pos rfl,by simp⟩
    ·rw[if_neg wR]; exact⟨cs,hc,rfl⟩
   ·simp only[bN];by_cases wR:j=i
    ·subst wR; exact absurd hg (hj ds)
    ·rw[if_neg wR]; exact hj
 |c b l=>
   simp only[at_] at hx;cases hg:aJ s.H b<;>rw[hg] at hx<;>simp at hx
   rename_i ds;have hs:setAt s (.c b l) v=⟨s.env,s.H.set b (some (ds.set l v))⟩:=by simp[setAt,hg]
   rw[hs];refine⟨fun j cs hc=>⟨cs,hc,rfl⟩,fun j hj=>hj,by simp,fun d cs hc=>?_,fun d hd=>?_⟩
   ·rw[dz];by_cases hdb:d=b
    ·subst hdb; rw[hg] at hc; cases hc; exact⟨_,if_pos ⟨rfl,dL hg⟩,by simp⟩
    ·rw[if_neg (fun h=>hdb h.1)]; exact⟨cs,hc,rfl⟩
   ·rw[dz];by_cases hdb:d=b
    ·subst hdb; rw[hg] at hd; cases hd
    ·rw[if_neg (fun h=>hdb h.1)]; exact hd
theorem F9 {s:St} {p:Rt} {v:AV} (h:Fits s p v) {r:Rt} (hr:Lf s r):at_ (setAt s p v) r=if r=p then some v else at_ s r:=by
 obtain⟨hv,x,hx,hn⟩:=h;cases p with
 |s i=>
   simp only[at_,af] at hx;cases r with
   |s j=>simp only[at_,setAt,bN]; by_cases wR:j=i<;>simp[wR]
   |sc j l=>
     simp only[at_,setAt,bN];by_cases wR:j=i
     ·subst wR;simp only[if_true,hx,reduceCtorEq,if_false];cases v<;>first|(exact absurd rfl (hv _))|(cases x<;>first|(exact absurd rfl (hn _))|rfl)
     ·simp[wR]
   |c b l=>simp[at_,setAt]
 |sc i l=>
   simp only[at_] at hx;cases hg:get s.env i<;>rw[hg] at hx<;>simp at hx
   rename_i ds;have hs:setAt s (.sc i l) v=⟨put s.env i (.agg (ds.set l v)),s.H⟩:=by simp[setAt,hg]
   rw[hs];cases r with
   |s j=>
     simp only[at_,bN,reduceCtorEq,if_false];by_cases wR:j=i
     ·subst wR;exact absurd hg (hr j rfl ds)
     ·simp[wR]
   |sc j m=>
     simp only[at_,bN];by_cases wR:j=i
     ·subst wR;simp only[if_true,hg,Rt.sc.injEq,true_and];rw[aR];by_cases hlm:l=m
      ·subst hlm;have:=ak hx;simp[this]
      ·simp[hlm,jF hlm]
     ·simp[wR]
   |c b m=>simp[at_]
 |c b l=>
   simp only[at_] at hx;cases hg:aJ s.H b<;>rw[hg] at hx<;>simp at hx
   rename_i ds;have hs:setAt s (.c b l) v=⟨s.env,s.H.set b (some (ds.set l v))⟩:=by simp[setAt,hg]
   rw[hs];cases r with
   |s j=>simp[at_]
   |sc j m=>simp[at_]
   |c d m=>
     simp only[at_,dz];by_cases hdb:d=b
     ·subst hdb;simp only[dL hg,and_self,if_true,hg,Rt.c.injEq,true_and];rw[aR];by_cases hlm:l=m
      ·subst hlm;have:=ak hx;simp[this]
      ·simp[hlm,jF hlm]
     ·simp[hdb]

theorem aes {N N':Names} {i:Nat} {x y:AV} (h1:∀cs,x=.agg cs->∃ds,y=.agg ds/\ds.length=cs.length/\∀ (j:Nat) (c d:AV),cs[j]?=some c->ds[j]?=some d->Le (jx N' (.sc i j) d) (jx N (.sc i j) c))
  (h2:kh x->kh y/\Le (jx N' (.s i) y) (jx N (.s i) x)):Le (lT N' i y) (lT N i x):=by
 by_cases hx:∃cs,x=.agg cs
 ·obtain⟨cs,rfl⟩:=hx;obtain⟨ds,rfl,hl,h⟩:=h1 cs rfl;simp only[lT];refine Le.agg (by simp[gH,hl]) fun j u v hu hv=>?_;rw[gb] at hu hv;simp only[fX] at hu hv;cases hd:ds[j]? with
  |none=>rw[hd] at hu; cases hu
  |some d=>
    cases hc:cs[j]? with
    |none=>rw[hc] at hv; cases hv
    |some c=>
      rw[hd] at hu; rw[hc] at hv;simp at hu hv;subst hu hv;exact h j c d hc hd
 ·have hn:kh x:=fun cs e=>hx ⟨cs,e⟩;obtain⟨hy,hle⟩:=h2 hn;have e1:lT N' i y=jx N' (.s i) y:=by cases y<;>first|rfl|exact absurd rfl (hy _)
  have e2:lT N i x=jx N (.s i) x:=by cases x<;>first|rfl|exact absurd rfl (hn _)
  rw[e1,e2]; exact hle
theorem Mg {s:St} {i:Nat} {cs:List AV} (h:get s.env i=.agg cs) (j:Nat):at_ s (.sc i j)=cs[j]?:=by simp[at_,h]
theorem Af {s:St} {b:Nat} {cs:List AV} (h:aJ s.H b=some cs) (j:Nat):at_ s (.c b j)=cs[j]?:=by simp[at_,h]
theorem Kz {s:St} {p:Rt} (h:(az s p).isSome):Lf s p:=by
 intro i hi cs hc;subst hi;cases ho:az s (.s i) with
 |none=>rw[ho] at h; cases h
 |some y=>
   obtain⟨k,xs⟩:=y;rw[cC] at ho;simp[at_,hc] at ho
theorem qQ.take {H:Heap} {o:Option Nat} {k m:Nat} {xs:List AV} (h:qQ H o k xs):qQ H o k (xs.take m):=by
 cases o with
 |none=>simp only[qQ] at h ⊢; rw[h]; simp
 |some n=>
   simp only[qQ] at h ⊢;obtain⟨cs,h1,h2,h3,h4⟩:=h;refine⟨cs,h1,?_,fun x hx=>h3 x (dh hx),fun i c hc=>?_⟩
   ·rw[bw]; exact Nat.le_trans (bS k (Nat.min_le_right _ _)) h2
   ·refine h4 i c ?_
    have:∀(m:Nat) (l:List AV) (i:Nat) (c:AV),(aA (l.take m))[i]?=some c->(aA l)[i]?=some c:=by
     intro m
     induction m with
     |zero=>intro l i c h; simp[aA] at h
     |succ m ih=>
       intro l i c h;cases l with
       |nil=>simpa using h
       |cons y r=>
         simp only[List.take_succ_cons,aA] at h ⊢;rw[List.getElem?_append] at h ⊢;split
         ·rename_i bF; rw[if_pos bF] at h; exact h
         ·rename_i bF; rw[if_neg bF] at h; exact ih _ _ _ h
    exact this m xs i c hc
theorem KE {o:Rt->Option (Nat × List AV)} {nb:Nat} {s:St} (h:∀r y,Lf s r->at_ s r=some y->cP o nb y) :
  (∀i,cP o nb (get s.env i))/\∀ b cs,aJ s.H b=some cs->∀(j:Nat) (c:AV),cs[j]?=some c->cP o nb c:=by
 refine⟨fun i=>?_,fun b cs hb j c hc=>h (.c b j) c (fun i e=>by cases e) (by rw[Af hb]; exact hc)⟩;by_cases hx:∃cs,get s.env i=.agg cs
 ·obtain⟨cs,dI⟩:=hx;rw[dI];simp only[cP];exact gE.2 fun j c hc=>h (.sc i j) c (fun i e=>by cases e) (by rw[Mg dI]; exact hc)
 ·exact h (.s i) _ (fun j e cs hc=>by cases e; exact hx ⟨cs,hc⟩) rfl
theorem eW.D8 {X:Nat->Prop} {φ:dj} {w:World} {N:Names} {s:St} {Ha:Heap} {t:Nat->Value} (h:eW X φ w N s Ha t) {r:Rt} {x:AV} (hx:at_ s r=some x):cP (az s) s.H.length x:=by
 cases r with
 |s i=>simp[at_] at hx; exact hx▸h.Iz i
 |sc i j=>
   simp only[at_] at hx;split at hx
   ·rename_i cs dI;have:=h.Iz i;rw[dI] at this;simp only[cP] at this;exact gE.1 this j x hx
   ·cases hx
 |c b j=>
   simp only[at_] at hx;split at hx
   ·rename_i cs dI;obtain⟨as,_,_,h3⟩:=h.box b cs dI;exact (h3 j x hx).1
   ·cases hx
theorem Shape.back {s s':St} (h:Shape s s') {r:Rt} {y:AV} (hl:Lf s' r) (hy:at_ s' r=some y):Lf s r/\∃ x,at_ s r=some x:=by
 cases r with
 |s i=>
   refine⟨fun j e cs hc=>?_,_,rfl⟩;cases e;obtain⟨ds,h1,_⟩:=h.agg i cs hc;exact hl i rfl ds h1
 |sc i j=>
   refine⟨(fun j e=>by cases e),?_⟩;simp only[at_] at hy ⊢;split at hy
   ·rename_i ds qe;by_cases hx:∃cs,get s.env i=.agg cs
    ·obtain⟨cs,dI⟩:=hx;obtain⟨es,h1,h2⟩:=h.agg i cs dI;rw[qe] at h1; cases h1;rw[dI];exact bq (by have:=ak hy; omega)
    ·exact absurd qe (h.We i (fun cs e=>hx ⟨cs,e⟩) ds)
   ·cases hy
 |c b j=>
   refine⟨(fun j e=>by cases e),?_⟩;simp only[at_] at hy ⊢;split at hy
   ·rename_i ds qe;cases hb:aJ s.H b with
    |none=>rw[h.Fw b hb] at qe; cases qe
    |some cs=>
      obtain⟨es,h1,h2⟩:=h.box b cs hb;rw[qe] at h1; cases h1;exact bq (by have:=ak hy; omega)
   ·cases hy
theorem eW.change {X:Nat->Prop} {φ:dj} {w:World} {N N':Names} {s s':St} {Ha:Heap} {t:Nat->Value} (h:eW X φ w N s Ha t) (eX:N'.β=N.β) (hs:Shape s s')
  (hp:∀r x y,Lf s r->at_ s r=some x->at_ s' r=some y->cP (az s') s'.H.length y/\Le (jx N' r y) (jx N r x))
  (src:Rt->Rt) (ho:∀p k xs,az s' p=some (k,xs)->∃ys,az s (src p)=some (k,ys)/\N'.ν p=N.ν (src p)/\∃ m,xs=ys.take m)
  (hi:∀p q,(az s' p).isSome->(az s' q).isSome->src p=src q->p=q):eW X φ w N' s' Ha t:=by
 have so:∀{p},(az s' p).isSome->(az s (src p)).isSome/\N'.ν p=N.ν (src p):=by
  intro p hp;cases e:az s' p with
  |none=>rw[e] at hp; cases hp
  |some y=>obtain⟨ys,h1,h2,_⟩:=ho p y.1 y.2 e; exact⟨by rw[h1]; rfl,h2⟩
 have sb:∀{b},(aJ s'.H b).isSome->(aJ s.H b).isSome:=by
  intro b hb;cases e:aJ s.H b with
  |none=>rw[hs.Fw b e] at hb; cases hb
  |some _=>rfl
 obtain⟨hk,hkc⟩:=KE (o:=az s') (nb:=s'.H.length) (s:=s') fun r y hl hy=>by
  obtain⟨MY,x,hx⟩:=hs.back hl hy;exact (hp r x y MY hx hy).1
 refine⟨fun i=>?_,hk,h.heap,fun p k xs e=>?_,fun b cs' e=>?_,fun p q n h1 h2 e1 e2=>?_,fun b p h1 h2 e=>?_,fun b c h1 h2 e=>?_⟩
 ·refine aes (fun cs dI=>?_) (fun hn=>⟨hs.We i hn,?_⟩) _ _ _ (h.env i)
  ·obtain⟨ds,h1,h2⟩:=hs.agg i cs dI;refine⟨ds,h1,h2,fun j c d hc hd=>(hp (.sc i j) c d (fun i e=>by cases e) ?_ ?_).2⟩
   ·rw[Mg dI]; exact hc
   ·rw[Mg h1]; exact hd
  ·exact (hp (.s i) _ _ (fun j e=>by cases e; exact hn) rfl rfl).2
 ·obtain⟨ys,h1,h2,m,rfl⟩:=ho p k xs e;rw[h2];exact (h.own _ _ _ h1).take
 ·cases hb:aJ s.H b with
  |none=>rw[hs.Fw b hb] at e; cases e
  |some cs=>
    obtain⟨ds,h1,h2⟩:=hs.box b cs hb;rw[e] at h1; cases h1;obtain⟨as,g1,g2,g3⟩:=h.box b cs hb;refine⟨as,by rw[eX]; exact g1,by omega,fun j c hc=>⟨hkc b cs' e j c hc,?_⟩⟩;obtain⟨d,hd⟩:=bq (l:=cs) (i:=j) (by have:=ak hc; omega);obtain⟨_,a,g4,g5⟩:=g3 j d hd;exact⟨a,g4,(hp (.c b j) d c (fun i e=>by cases e) (by rw[Af hb]; exact hd) (by rw[Af e]; exact hc)).2.trans g5⟩
 ·obtain⟨k1,k2⟩:=so h1;obtain⟨k3,k4⟩:=so h2;exact hi p q h1 h2 (h.inj _ _ n k1 k3 (by rw[<-k2]; exact e1) (by rw[<-k4]; exact e2))
 ·obtain⟨k1,k2⟩:=so h2;rw[k2,eX] at e;exact h.bx b _ (sb h1) k1 e
 ·rw[eX] at e;exact h.bi b c (sb h1) (sb h2) e

mutual
theorem Qa {N N':Names} {o o':Rt->Option (Nat × List AV)} {nb:Nat} {g:AV->AV} (eX:N'.β=N.β) (hg:lN g)
  (hl:∀k p a l,(cP o nb (.dP k p a l)->cP o' nb (g (.dP k p a l))/\Le (cS N' (g (.dP k p a l))) (cS N (.dP k p a l)))/\(cP o nb (.fv k p a l)->cP o' nb (g (.fv k p a l))/\Le (cS N' (g (.fv k p a l))) (cS N (.fv k p a l)))) :
  ∀ x,cP o nb x->cP o' nb (cT g x)/\Le (cS N' (cT g x)) (cS N x)
 |.dP k p a l,h=>by simp only[cT]; exact (hl k p a l).1 h
 |.fv k p a l,h=>by simp only[cT]; exact (hl k p a l).2 h
 |.agg cs,h=>by
   simp only[cP] at h;obtain⟨h1,h2,h3⟩:=zO eX hg hl cs h;simp only[cT,cP,cS];exact⟨h1,Le.agg h2 h3⟩
 |.dt cs,h=>by
   simp only[cP] at h;obtain⟨h1,h2,h3⟩:=zO eX hg hl cs h;simp only[cT,cP,cS];refine⟨h1,fun R φ v r=>?_⟩;cases r with
   |dt _ _ vs A4 hh2=>
     refine .dt _ _ _ (h2.trans A4) fun i c u hc hu=>?_;obtain⟨y,hy⟩:=bq (l:=mR N cs) (i:=i) (by have:=ak hc; omega);exact h3 i c y hc hy _ _ _ (hh2 i y u hy hu)
 |.func f a b,h=>by
   simp only[cP] at h;obtain⟨h1,h2,h3⟩:=zO eX hg hl a h.1;obtain⟨k1,k2,k3⟩:=zO eX hg hl b h.2.1;simp only[cT,cP,cS];refine⟨⟨h1,k1,fun hy=>by obtain⟨rfl,c,rfl⟩:=h.2.2 hy; exact⟨rfl,c,by simp only[dc,cT]⟩⟩,fun R φ v r=>?_⟩;rcases r.zW with⟨hy,va,vb,rfl,CW,CV,ha,hb⟩|⟨b0,r0,rfl,ea,eb,rfl,hb0,hr0⟩
   ·refine .func _ _ _ _ _ _ hy (h2.trans CW) (k2.trans CV) (fun i c u hc hu=>?_) (fun i c u hc hu=>?_)
    ·obtain⟨y,hy⟩:=bq (l:=mR N a) (i:=i) (by have:=ak hc; omega);exact h3 i c y hc hy _ _ _ (ha i y u hy hu)
    ·obtain⟨y,hy⟩:=bq (l:=mR N b) (i:=i) (by have:=ak hc; omega);exact k3 i c y hc hy _ _ _ (hb i y u hy hu)
   ·obtain⟨rfl,c,rfl⟩:=h.2.2 rfl;simp only[mR,cS,dc,cT,eX] at eb ⊢;simp only[QV,AV.ptr.injEq,and_true] at eb;subst eb;exact .CI _ _ _ hb0 hr0
 |.any,h=>⟨h,Le.refl _⟩
 |.undef,h=>⟨h,Le.refl _⟩
 |.fN,h=>⟨h,Le.refl _⟩
 |.fS,h=>⟨h,Le.refl _⟩
 |.du,h=>⟨h,Le.refl _⟩
 |.int _ _,h=>⟨h,Le.refl _⟩
 |.bool _,h=>⟨h,Le.refl _⟩
 |.str _,h=>⟨h,Le.refl _⟩
 |.list _ _,h=>⟨h,Le.refl _⟩
 |.dy _,h=>⟨h,Le.refl _⟩
 |.own _ _,h=>⟨h,Le.refl _⟩
 |.sl k b off len,h=>by simp only[cT,cS,eX]; exact⟨h,Le.refl _⟩
 |.ptr b off,h=>by simp only[cT,cS,eX]; exact⟨h,Le.refl _⟩
theorem zO {N N':Names} {o o':Rt->Option (Nat × List AV)} {nb:Nat} {g:AV->AV} (eX:N'.β=N.β) (hg:lN g)
  (hl:∀k p a l,(cP o nb (.dP k p a l)->cP o' nb (g (.dP k p a l))/\Le (cS N' (g (.dP k p a l))) (cS N (.dP k p a l)))/\(cP o nb (.fv k p a l)->cP o' nb (g (.fv k p a l))/\Le (cS N' (g (.fv k p a l))) (cS N (.fv k p a l)))) :
  ∀ cs,mg o nb cs->mg o' nb (dc g cs)/\(mR N' (dc g cs)).length=(mR N cs).length/\∀ (i:Nat) (x y:AV),(mR N' (dc g cs))[i]?=some x->(mR N cs)[i]?=some y->Le x y
 |[],_=>⟨trivial,rfl,fun i x y h=>by simp[dc,mR] at h⟩
 |c::r,h=>by
   simp only[mg] at h;obtain⟨h1,h2⟩:=Qa eX hg hl c h.1;obtain⟨k1,k2,k3⟩:=zO eX hg hl r h.2;refine⟨⟨h1,k1⟩,by simp[dc,mR,k2],fun i x y hx hy=>?_⟩;cases i with
   |zero=>simp[dc,mR] at hx hy; subst hx hy; exact h2
   |succ i=>simp[dc,mR] at hx hy; exact k3 i x y hx hy
end
theorem nT {N N':Names} {o o':Rt->Option (Nat × List AV)} {nb:Nat} {g:AV->AV} (eX:N'.β=N.β) (hg:lN g)
  (hl:∀k p a l,(cP o nb (.dP k p a l)->cP o' nb (g (.dP k p a l))/\Le (cS N' (g (.dP k p a l))) (cS N (.dP k p a l)))/\(cP o nb (.fv k p a l)->cP o' nb (g (.fv k p a l))/\Le (cS N' (g (.fv k p a l))) (cS N (.fv k p a l))))
  {r:Rt} {x:AV} (hr:∀k xs,x=.own k xs->N'.ν r=N.ν r) (hx:cP o nb x):cP o' nb (cT g x)/\Le (jx N' r (cT g x)) (jx N r x):=by
 by_cases ho:∃k xs,x=.own k xs
 ·obtain⟨k,xs,rfl⟩:=ho;simp only[cT,jx,rU,hr k xs rfl];exact⟨trivial,Le.refl _⟩
 ·obtain⟨h1,h2⟩:=Qa eX hg hl x hx;refine⟨h1,?_⟩
  have e1:jx N' r (cT g x)=cS N' (cT g x):=by
   have:∀k xs,cT g x≠.own k xs:=fun k xs e=>ho ⟨k,xs,(zL hg x k xs).1 e⟩;generalize cT g x=y at this;cases y<;>first|rfl|exact absurd rfl (this _ _)
  have e2:jx N r x=cS N x:=by cases x<;>first|rfl|exact absurd ⟨_,_,rfl⟩ ho
  rw[e1,e2];exact h2
theorem Lf.map {g:AV->AV} (hg:lN g) {s:St} {r:Rt} (h:Lf s r):Lf (cB g s) r:=by
 intro i hi;simp only[cB,dx];exact nS hg (h i hi)
theorem K3 (p:Rt):lN (sw p):=by
 intro k q o l;simp only[sw];constructor<;>(split<;>exact⟨(fun cs e=>by cases e),(fun k xs e=>by cases e)⟩)
theorem akQ (p q:Rt) (n:Nat):lN (rt p q n):=by
 intro k r o l;simp only[rt];constructor<;>(repeat' split)<;>exact⟨(fun cs e=>by cases e),(fun k xs e=>by cases e)⟩
theorem akS (p:Rt) (k:Nat) (xs:List AV):lN (fb p k xs):=by
 intro k r o l;simp only[fb];constructor<;>(repeat' split)<;>exact⟨(fun cs e=>by cases e),(fun k xs e=>by cases e)⟩
theorem akR (i d:Nat):lN (mvB i d):=by
 intro k r o l;simp only[mvB];exact⟨⟨(fun cs e=>by cases e),(fun k xs e=>by cases e)⟩,⟨(fun cs e=>by cases e),(fun k xs e=>by cases e)⟩⟩
theorem aat (i b off:Nat):lN (iP i b off):=by
 intro k r o l;simp only[iP];exact⟨⟨(fun cs e=>by cases e),(fun k xs e=>by cases e)⟩,⟨(fun cs e=>by cases e),(fun k xs e=>by cases e)⟩⟩
theorem AU:lN pE:=by
 intro k r o l;cases r<;>exact⟨⟨(fun cs e=>by cases e),(fun k xs e=>by cases e)⟩,⟨(fun cs e=>by cases e),(fun k xs e=>by cases e)⟩⟩
theorem Db {g:AV->AV} (hg:lN g) {s:St} {p:Rt} {v x:AV} (hv:kh v) (hx:at_ s p=some x) (hn:kh x) {r:Rt} (hr:Lf s r) :
  at_ (setAt (cB g s) p v) r=if r=p then some v else (at_ s r).map (cT g):=by
 rw[F9 ⟨hv,cT g x,by rw[jT hg,hx]; rfl,nS hg hn⟩ (hr.map hg),jT hg]
theorem uK {g:AV->AV} (hg:lN g) {s:St} {p:Rt} {v x:AV} (hv:kh v) (hx:at_ s p=some x) (hn:kh x):Shape s (setAt (cB g s) p v):=
 (Shape.map hg s).trans (Shape.set ⟨hv,cT g x,by rw[jT hg,hx]; rfl,nS hg hn⟩)
theorem PR {s s':St} {p q:Rt} (h:at_ s' p=at_ s q):az s' p=az s q:=by unfold az; rw[h]
theorem iN {s s':St} {p:Rt} (h:at_ s' p=at_ s p):az s' p=az s p:=by unfold az; rw[h]
theorem vI {s:St} {q:Rt} (h:¬Lf s q):az s q=none:=by
 cases e:az s q with
 |none=>rfl
 |some y=>exact absurd (Kz (by rw[e]; rfl)) h
theorem Shape.nlf {s s':St} (h:Shape s s') {q:Rt} (hq:¬Lf s q):¬Lf s' q:=fun hl=>hq fun i hi cs hc=>by
 obtain⟨ds,h1,_⟩:=h.agg i cs hc;exact hl i hi ds h1
theorem AM {s s':St} (jz:Shape s s') {f:Rt->Option (Nat × List AV)} (hf:∀q,Lf s q->az s' q=f q) (hn:∀q,¬Lf s q->f q=none) (q:Rt):az s' q=f q:=by
 by_cases hq:Lf s q
 ·exact hf q hq
 ·rw[hn q hq,vI (jz.nlf hq)]
theorem eW.drop {X:Nat->Prop} {φ:dj} {w:World} {N:Names} {s:St} {Ha:Heap} {t:Nat->Value} (h:eW X φ w N s Ha t) {p:Rt} {k:Nat} {xs:List AV} (hp:az s p=some (k,xs)) :
  eW X φ w N (setAt (cB (sw p) s) p .any) Ha t/\(∀q,az (setAt (cB (sw p) s) p .any) q=if q=p then none else az s q)/\Shape s (setAt (cB (sw p) s) p .any):=by
 have yH:=cC.1 hp;have hn:kh (.own k xs):=fun cs e=>by cases e
 have hv:kh .any:=fun cs e=>by cases e
 have jz:=uK (K3 p) hv yH hn;have key:∀{r},Lf s r->at_ (setAt (cB (sw p) s) p .any) r=if r=p then some .any else (at_ s r).map (cT (sw p)):=fun hr=>Db (K3 p) hv yH hn hr
 have own:∀q,az (setAt (cB (sw p) s) p .any) q=if q=p then none else az s q:=by
  refine AM jz (fun q hq=>?_) (fun q hq=>?_)
  ·have e:=key hq;by_cases qJ:q=p
   ·subst qJ; rw[if_pos rfl] at e ⊢; unfold az; rw[e]
   ·rw[if_neg qJ] at e ⊢;rw[<-iO (K3 p) s q];exact iN (by rw[e,jT (K3 p)])
  ·split
   ·rfl
   ·exact vI hq
 refine⟨h.change rfl jz (fun r x y hl hx hy=>?_) id (fun q k' ys e=>?_) (fun q r _ _ e=>e),own,jz⟩
 ·rw[key hl] at hy;by_cases Ig:r=p
  ·rw[if_pos Ig] at hy;cases hy;exact⟨trivial,Le.any _⟩
  ·rw[if_neg Ig,hx] at hy;simp at hy;subst hy;have:=nT (N:=N) (N':=N) (o:=az s) (o':=az (setAt (cB (sw p) s) p .any)) (nb:=s.H.length) rfl (K3 p) (fun k q a l=>?_) (r:=r) (x:=x) (fun _ _ _=>rfl) (h.D8 hx)
   ·rw[jz.len]; exact this
   ·simp only[sw];refine⟨fun ho=>?_,fun ho=>?_⟩
    ·split
     ·exact⟨trivial,Le.any _⟩
     ·rename_i qJ;simp only[cP,own,if_neg qJ] at ho ⊢;exact⟨ho,Le.refl _⟩
    ·split
     ·exact⟨trivial,Le.any _⟩
     ·rename_i qJ;simp only[cP,own,if_neg qJ] at ho ⊢;exact⟨ho,Le.refl _⟩
 ·rw[own] at e;split at e
  ·cases e
  ·exact⟨ys,e,rfl,ys.length,by simp⟩
theorem eW.give {X:Nat->Prop} {φ:dj} {w:World} {N:Names} {s:St} {Ha:Heap} {t:Nat->Value} (h:eW X φ w N s Ha t) {p q:Rt} {k k' len:Nat} {xs:List AV} (hp:az s p=some (k,xs)) (hq:at_ s q=some (.dP k' p 0 len)) :
  ∃ N',N'.β=N.β/\eW X φ w N' (setAt (setAt (cB (rt p q len) s) p .any) q (.own k (xs.take len))) Ha t/\(∀r,az (setAt (setAt (cB (rt p q len) s) p .any) q (.own k (xs.take len))) r=if r=q then some (k,xs.take len) else if r=p then none else az s r) /\
   Shape s (setAt (setAt (cB (rt p q len) s) p .any) q (.own k (xs.take len))):=by
 have dm:=h.D8 hq;simp only[cP,hp,af,aC] at dm;obtain⟨_,⟨rfl,rfl⟩,hle⟩:=dm;have yH:=cC.1 hp;have hn:kh (.own k xs):=fun cs e=>by cases e
 have hv:kh .any:=fun cs e=>by cases e
 have qJ:q≠p:=by rintro rfl; rw[yH] at hq; cases hq
 have qn:az s q=none:=by unfold az; rw[hq]
 have hg:=akQ p q len;have key1:∀{r},Lf s r->at_ (setAt (cB (rt p q len) s) p .any) r=if r=p then some .any else (at_ s r).map (cT (rt p q len)):=fun hr=>Db hg hv yH hn hr;have hsh1:Shape s (setAt (cB (rt p q len) s) p .any):=uK hg hv yH hn;have hlq:Lf s q:=fun i hi cs hc=>by subst hi; simp[at_,hc] at hq
 have hx1:at_ (setAt (cB (rt p q len) s) p .any) q=some (cT (rt p q len) (.dP k p 0 len)):=by rw[key1 hlq,if_neg qJ,hq]; rfl
 have hn1:kh (cT (rt p q len) (.dP k p 0 len)):=nS hg fun cs e=>by cases e
 have hv1:kh (.own k (xs.take len)):=fun cs e=>by cases e
 have hsh2:Shape s (setAt (setAt (cB (rt p q len) s) p .any) q (.own k (xs.take len))):=hsh1.trans (Shape.set ⟨hv1,_,hx1,hn1⟩);have lf1:∀{r},Lf s r->Lf (setAt (cB (rt p q len) s) p .any) r:=fun hr i hi=>hsh1.We i (hr i hi)
 have key:∀{r},Lf s r->at_ (setAt (setAt (cB (rt p q len) s) p .any) q (.own k (xs.take len))) r=if r=q then some (.own k (xs.take len)) else if r=p then some .any else (at_ s r).map (cT (rt p q len)):=by
  intro r hr;rw[F9 ⟨hv1,_,hx1,hn1⟩ (lf1 hr),key1 hr]
 have own:∀r,az (setAt (setAt (cB (rt p q len) s) p .any) q (.own k (xs.take len))) r=if r=q then some (k,xs.take len) else if r=p then none else az s r:=by
  refine AM hsh2 (fun r hr=>?_) (fun r hr=>?_)
  ·have e:=key hr;by_cases h1:r=q
   ·rw[if_pos h1] at e ⊢; exact cC.2 e
   ·rw[if_neg h1] at e ⊢;by_cases h2:r=p
    ·rw[if_pos h2] at e ⊢; unfold az; rw[e]
    ·rw[if_neg h2] at e ⊢;rw[<-iO hg s r];exact iN (by rw[e,jT hg])
  ·rw[if_neg (by rintro rfl; exact hr hlq)];split
   ·rfl
   ·exact vI hr
 refine⟨⟨N.β,fun r=>if r=q then N.ν p else N.ν r⟩,rfl,h.change rfl hsh2 (fun r x y hl hx hy=>?_) (fun r=>if r=q then p else r) (fun r k' ys e=>?_) (fun r1 r2 e1 e2 e=>?_),own,hsh2⟩
 ·rw[key hl] at hy;by_cases h1:r=q
  ·rw[if_pos h1] at hy;subst h1;rw[hq] at hx;cases hx;cases hy;refine⟨trivial,?_⟩;have hlen:(xs.take len).length=len:=by rw[bw]; omega
   simp only[jx,cS,rU,if_true,hlen,qU];exact Le.refl _
  ·rw[if_neg h1] at hy;by_cases h2:r=p
   ·rw[if_pos h2] at hy;cases hy;exact⟨trivial,Le.any _⟩
   ·rw[if_neg h2,hx] at hy;simp at hy;subst hy;have:=nT (N:=N) (N':=⟨N.β,fun r=>if r=q then N.ν p else N.ν r⟩) (o:=az s) (o':=az (setAt (setAt (cB (rt p q len) s) p .any) q (.own k (xs.take len)))) (nb:=s.H.length) rfl hg (fun kk r' a l=>?_) (r:=r) (x:=x) (fun _ _ _=>by simp[h1]) (h.D8 hx)
    ·rw[hsh2.len]; exact this
    ·simp only[rt];refine⟨fun ho=>?_,fun ho=>?_⟩
     ·split
      ·rename_i Ig;subst Ig;split
       ·rename_i Q4;simp only[cP,hp,af,aC] at ho;obtain⟨_,⟨rfl,rfl⟩,_⟩:=ho;refine⟨?_,?_⟩
        ·simp only[cP,own,if_true];exact⟨_,rfl,by rw[bw]; omega⟩
        ·simp only[cS,if_true]; exact Le.refl _
       ·exact⟨trivial,Le.any _⟩
      ·rename_i Ig;simp only[cP] at ho ⊢;obtain⟨zs,hz,hz2⟩:=ho;have hrq:r'≠q:=by rintro rfl; rw[qn] at hz; cases hz
       refine⟨⟨zs,by rw[own,if_neg hrq,if_neg Ig]; exact hz,hz2⟩,?_⟩;simp only[cS,if_neg hrq]; exact Le.refl _
     ·split
      ·rename_i Ig;subst Ig;split
       ·rename_i Q4;simp only[cP,hp,af,aC] at ho;obtain⟨_,⟨rfl,rfl⟩,_⟩:=ho;refine⟨?_,?_⟩
        ·simp only[cP,own,if_true];exact⟨_,rfl,by rw[bw]; omega⟩
        ·simp only[cS,if_true]; exact Le.refl _
       ·exact⟨trivial,Le.any _⟩
      ·rename_i Ig;simp only[cP] at ho ⊢;obtain⟨zs,hz,hz2⟩:=ho;have hrq:r'≠q:=by rintro rfl; rw[qn] at hz; cases hz
       refine⟨⟨zs,by rw[own,if_neg hrq,if_neg Ig]; exact hz,hz2⟩,?_⟩;simp only[cS,if_neg hrq]; exact Le.refl _
 ·rw[own] at e;by_cases h1:r=q
  ·rw[if_pos h1] at e;simp only[af,aC] at e;obtain⟨rfl,rfl⟩:=e;exact⟨xs,by simp[h1,hp],by simp[h1,qJ.symm],len,rfl⟩
  ·rw[if_neg h1] at e;by_cases h2:r=p
   ·rw[if_pos h2] at e; cases e
   ·rw[if_neg h2] at e;exact⟨ys,by simp[h1,e],by simp[h1],ys.length,by simp⟩
 ·have np:∀r,(az (setAt (setAt (cB (rt p q len) s) p .any) q (.own k (xs.take len))) r).isSome->r≠p:=by
   intro r hr e;subst e;rw[own,if_neg (jF qJ),if_pos rfl] at hr;cases hr
  by_cases h1:r1=q<;>by_cases h2:r2=q
  ·rw[h1,h2]
  ·simp only[h1,h2,if_true,if_false] at e;exact absurd e.symm (np r2 e2)
  ·simp only[h1,h2,if_true,if_false] at e;exact absurd e (np r1 e1)
  ·simpa only[h1,h2,if_false] using e
end Go.Bm

/- What is owned becomes a value by value. -/
namespace Go.Bm
open Go.Am

theorem EI {k:Nat}:∀{xs:List AV},(∀x∈xs,x.cells.length=k)->∀{i j:Nat} {x c:AV},xs[i]?=some x->x.cells[j]?=some c->(aA xs)[i*k+j]?=some c
 |[],_,i,j,x,c,h,_=>by simp at h
 |y::r,hk,i,j,x,c,h,hc=>by
   have hy:=hk y (by simp);cases i with
   |zero=>
     simp at h; subst h;simp only[aA,qU,fX];rw[aq (ak hc)];exact hc
   |succ i=>
     simp at h;have:=EI (xs:=r) (fun z hz=>hk z (by simp[hz])) h hc;simp only[aA];rw[aM (by rw[hy,cK]; omega),hy,cK,show i*k+1*k+j-k=i*k+j by omega];exact this
mutual
theorem fQ:∀x:AV,pl x=true->x.plain=true
 |.agg cs,h=>by simp only[pl] at h; simp only[AV.plain]; exact vG cs h
 |.dt cs,h=>by simp only[pl] at h; simp only[AV.plain]; exact vG cs h
 |.func _ a b,h=>by simp only[pl,ae] at h; simp only[AV.plain,ae]; exact⟨vG a h.2.1,vG b h.2.2⟩
 |.any,_=>rfl
 |.undef,_=>rfl
 |.fN,_=>rfl
 |.fS,_=>rfl
 |.du,_=>rfl
 |.int _ _,_=>rfl
 |.bool _,_=>rfl
 |.str _,_=>rfl
 |.list _ _,_=>rfl
 |.dy _,_=>rfl
 |.own _ _,h=>by simp[pl] at h
 |.dP _ _ _ _,h=>by simp[pl] at h
 |.fv _ _ _ _,h=>by simp[pl] at h
 |.ptr _ _,h=>by simp[pl] at h
 |.sl _ _ _ _,h=>by simp[pl] at h
theorem vG:∀cs:List AV,dq cs=true->tq cs=true
 |[],_=>rfl
 |x::r,h=>by simp only[dq,ae] at h; simp only[tq,ae]; exact⟨fQ x h.1,vG r h.2⟩
end
theorem mh {c:AV} (h:fz c=true):pl c=true/\c.leaf=true:=by
 unfold fz at h;simp only[ae] at h;exact⟨h.2,h.1⟩
section
variable {X:Nat->Prop} {φ:dj} {w:World} {Ha:Heap}
theorem sV (h:cj X φ w Ha) {n k:Nat} {xs:List AV} (ho:qQ Ha (some n) k xs) :
  ∃ g sz,φ[n]?=some (some (g,sz))/\¬ X g/\∀ (i j:Nat) (x c:AV),xs[i]?=some x->x.cells[j]?=some c->∃u,w.cell? ⟨g,i*k+j,none⟩=some u/\fz c=true/\bO (Rd X φ w) [] c u:=by
 obtain⟨cs,h1,h2,h3,h4⟩:=ho;obtain⟨g,sz,arr,e,g1,g2,g3,g4,g5,g6⟩:=h.at h1;refine⟨g,sz,g1,g5,fun i j x c hx hc=>?_⟩;obtain⟨f1,a,f2,lf,f3⟩:=h4 _ c (EI h3 hx hc);obtain⟨u,u1,u2⟩:=g6 _ a f2;obtain⟨te,rfl,_⟩:=g3.leaf u1 u2 lf;exact⟨u,by rw[gg g2]; exact u1,f1,(f3 _ _ _ u2).dD (fQ _ (mh f1).1) []⟩
theorem acM {n g sz:Nat} (h:cj X φ w Ha) (jK:φ[n]?=some (some (g,sz))) {o:Nat} {u:Value} (hX:¬X g) (hu:w.cell? ⟨g,o,none⟩=some u):Rd X (φ.set n none) w ⟨g,o,none⟩ u:=by
 refine⟨hX,fun⟨b,pg,hb⟩=>?_,hu⟩;rw[aR] at hb;split at hb
 ·split at hb<;>simp at hb
 ·rename_i qd;exact qd (h.inj n b g sz pg jK hb)
theorem acL (n:Nat):∀a u,Rd X φ w a u->Rd X (φ.set n none) w a u:=fun _ _ ⟨h1,h2,h3⟩=>⟨h1,fun h=>h2 (vH h),h3⟩
theorem L8 (h:cj X φ w Ha) {n k:Nat} {xs:List AV} (ho:qQ Ha (some n) k xs) {off len:Nat} (hle:off+len<=xs.length) {v:Value} (r:bO (Rd X φ w) φ (.sl k n (off*k) len) v) (ψ:dj) :
  bO (Rd X (φ.set n none) w) ψ (.list k ((xs.drop off).take len)) v:=by
 cases r with
 |sl _ _ _ _ _ a cap hb iC hh=>
   obtain⟨g,sz,jK,hX,hc⟩:=sV h ho;obtain⟨h1,h2⟩:=hh g sz jK;by_cases h0:len=0
   ·subst h0;simp only[List.take_zero];exact .yd _ _ _ _ _ _ (fun _ _=>undef) rfl iC (fun x hx=>by simp at hx) (fun i j x c hx=>by simp at hx) (fun i j x c hx=>by simp at hx)
   ·have ha:=h1 (by omega);subst ha
    have hx:∀(i:Nat) (x:AV),((xs.drop off).take len)[i]?=some x->xs[off+i]?=some x/\i<len:=by
     intro i x hx;rw[bP] at hx;split at hx
     ·rw[bf] at hx; exact⟨hx,‹_›⟩
     ·cases hx
    obtain⟨cs,q1,q2,hk,q4⟩:=ho;refine .yd _ _ _ _ _ _ (fun i j=>(w.cell? ⟨g,(off+i)*k+j,none⟩).getD undef) (by simp; omega) iC (fun x hm=>?_) (fun i j x c hi hj=>?_) (fun i j x c hi hj=>?_)
    ·exact hk x (di (dh hm))
    ·obtain⟨u,u1,_,_⟩:=hc _ j x c (hx i x hi).1 hj;rw[u1,Addr.ju,show off*k+(i*k+j)=(off+i)*k+j by rw[cK]; omega];exact acM h jK hX u1
    ·obtain⟨u,u1,_,u3⟩:=hc _ j x c (hx i x hi).1 hj;rw[u1];exact u3.mono (acL n) (.refl _)
theorem ab9 (h:cj X φ w Ha) {n k:Nat} {xs:List AV} (ho:qQ Ha (some n) k xs) {i o:Nat} {x:AV} (hx:xs[i]?=some x) {v:Value} (r:bO (Rd X φ w) φ (.ptr n (i*k+o)) v) (ψ:dj) :
  bO (Rd X (φ.set n none) w) ψ (.dy (x.cells.drop o)) v:=by
 cases r with
 |ptr _ _ _ a hb hh=>
   obtain⟨g,sz,jK,hX,hc⟩:=sV h ho;have ha:=(hh g sz jK).1;subst ha;refine .dy _ _ _ (fun j=>(w.cell? ⟨g,i*k+(o+j),none⟩).getD undef) (fun j c hj=>?_) (fun j c hj=>?_)
   ·rw[bf] at hj;obtain⟨u,u1,_,_⟩:=hc i (o+j) x c hx hj;rw[u1,Addr.ju,show i*k+o+j=i*k+(o+j) by omega];exact acM h jK hX u1
   ·rw[bf] at hj;obtain⟨u,u1,_,u3⟩:=hc i (o+j) x c hx hj;rw[u1];exact u3.mono (acL n) (.refl _)
end
theorem af9 {R R':Addr->Value->Prop} {φ φ':dj} {N N':Names} {i:Nat} {x y:AV} (h1:∀cs,x=.agg cs->∃ds,y=.agg ds/\ds.length=cs.length/\∀ (j:Nat) (c d:AV),cs[j]?=some c->ds[j]?=some d->∀u,bO R φ (jx N (.sc i j) c) u->bO R' φ' (jx N' (.sc i j) d) u)
  (h2:kh x->kh y/\∀ v,bO R φ (jx N (.s i) x) v->bO R' φ' (jx N' (.s i) y) v) {v:Value} (hv:bO R φ (lT N i x) v):bO R' φ' (lT N' i y) v:=by
 by_cases hx:∃cs,x=.agg cs
 ·obtain⟨cs,rfl⟩:=hx;obtain⟨ds,rfl,hl,h⟩:=h1 cs rfl;simp only[lT] at hv ⊢;cases hv with
  |agg _ _ vs A4 hh=>
    rw[gH] at A4;refine .agg _ _ _ (by rw[gH]; omega) fun j c u hc hu=>?_;rw[gb] at hc;simp only[fX] at hc;cases hd:ds[j]? with
    |none=>rw[hd] at hc; cases hc
    |some d=>
      rw[hd] at hc;simp at hc;subst hc;obtain⟨c,hc⟩:=bq (l:=cs) (i:=j) (by have:=ak hd; omega);exact h j c d hc hd u (hh j _ u (by rw[gb,hc]; simp) hu)
 ·have hn:kh x:=fun cs e=>hx ⟨cs,e⟩;obtain⟨hy,hle⟩:=h2 hn;have e1:lT N' i y=jx N' (.s i) y:=by cases y<;>first|rfl|exact absurd rfl (hy _)
  have e2:lT N i x=jx N (.s i) x:=by cases x<;>first|rfl|exact absurd rfl (hn _)
  rw[e2] at hv;rw[e1];exact hle v hv
mutual
theorem Rx {R R':Addr->Value->Prop} {φ φ':dj} {N N':Names} {o o':Rt->Option (Nat × List AV)} {nb:Nat} {g:AV->AV} (hR:∀a u,R a u->R' a u) (jK:An φ φ') (eX:N'.β=N.β)
  (hl:∀k p a l,(cP o nb (.dP k p a l)->cP o' nb (g (.dP k p a l))/\∀ v,bO R φ (cS N (.dP k p a l)) v->bO R' φ' (cS N' (g (.dP k p a l))) v)/\(cP o nb (.fv k p a l)->cP o' nb (g (.fv k p a l))/\∀ v,bO R φ (cS N (.fv k p a l)) v->bO R' φ' (cS N' (g (.fv k p a l))) v)) :
  ∀ x,cP o nb x->cP o' nb (cT g x)/\∀ v,bO R φ (cS N x) v->bO R' φ' (cS N' (cT g x)) v
 |.dP k p a l,h=>by simp only[cT]; exact (hl k p a l).1 h
 |.fv k p a l,h=>by simp only[cT]; exact (hl k p a l).2 h
 |.agg cs,h=>by
   simp only[cP] at h;obtain⟨h1,h3⟩:=vE hR jK eX hl cs h;simp only[cT,cP,cS];refine⟨h1,fun v r=>?_⟩;cases r with
   |agg _ _ vs A4 hh2=>
     refine .agg _ _ _ (by simp only[dQ,cN] at A4 ⊢; exact A4) fun i c u hc hu=>?_;exact h3 i c u hc (fun y hy=>hh2 i y u hy hu)
 |.dt cs,h=>by
   simp only[cP] at h;obtain⟨h1,h3⟩:=vE hR jK eX hl cs h;simp only[cT,cP,cS];refine⟨h1,fun v r=>?_⟩;cases r with
   |dt _ _ vs A4 hh2=>
     refine .dt _ _ _ (by simp only[dQ,cN] at A4 ⊢; exact A4) fun i c u hc hu=>?_;exact h3 i c u hc (fun y hy=>hh2 i y u hy hu)
 |.func f a b,h=>by
   simp only[cP] at h;obtain⟨h1,h3⟩:=vE hR jK eX hl a h.1;obtain⟨k1,k3⟩:=vE hR jK eX hl b h.2.1;simp only[cT,cP,cS];refine⟨⟨h1,k1,fun hy=>by obtain⟨rfl,c,rfl⟩:=h.2.2 hy; exact⟨rfl,c,by simp only[dc,cT]⟩⟩,fun v r=>?_⟩;rcases r.zW with⟨hy,va,vb,rfl,CW,CV,ha,hb⟩|⟨b0,r0,rfl,ea,eb,rfl,hb0,hr0⟩
   ·refine .func _ _ _ _ _ _ hy (by simp only[dQ,cN] at CW ⊢; exact CW) (by simp only[dQ,cN] at CV ⊢; exact CV) (fun i c u hc hu=>?_) (fun i c u hc hu=>?_)
    ·exact h3 i c u hc (fun y hy=>ha i y u hy hu)
    ·exact k3 i c u hc (fun y hy=>hb i y u hy hu)
   ·obtain⟨rfl,c,rfl⟩:=h.2.2 rfl;simp only[mR,cS,dc,cT,eX] at eb ⊢;simp only[QV,AV.ptr.injEq,and_true] at eb;subst eb;exact (bO.CI (R:=R) _ _ _ hb0 hr0).mono hR jK
 |.any,h=>⟨h,fun v r=>r.mono hR jK⟩
 |.undef,h=>⟨h,fun v r=>r.mono hR jK⟩
 |.fN,h=>⟨h,fun v r=>r.mono hR jK⟩
 |.fS,h=>⟨h,fun v r=>r.mono hR jK⟩
 |.du,h=>⟨h,fun v r=>r.mono hR jK⟩
 |.int _ _,h=>⟨h,fun v r=>r.mono hR jK⟩
 |.bool _,h=>⟨h,fun v r=>r.mono hR jK⟩
 |.str _,h=>⟨h,fun v r=>r.mono hR jK⟩
 |.list _ _,h=>⟨h,fun v r=>r.mono hR jK⟩
 |.dy _,h=>⟨h,fun v r=>r.mono hR jK⟩
 |.own _ _,h=>⟨h,fun v r=>r.mono hR jK⟩
 |.sl _ b _ _,h=>by simp only[cT,cS,eX]; exact⟨h,fun v r=>r.mono hR jK⟩
 |.ptr b off,h=>by simp only[cT,cS,eX]; exact⟨h,fun v r=>r.mono hR jK⟩
theorem vE {R R':Addr->Value->Prop} {φ φ':dj} {N N':Names} {o o':Rt->Option (Nat × List AV)} {nb:Nat} {g:AV->AV} (hR:∀a u,R a u->R' a u) (jK:An φ φ') (eX:N'.β=N.β)
  (hl:∀k p a l,(cP o nb (.dP k p a l)->cP o' nb (g (.dP k p a l))/\∀ v,bO R φ (cS N (.dP k p a l)) v->bO R' φ' (cS N' (g (.dP k p a l))) v)/\(cP o nb (.fv k p a l)->cP o' nb (g (.fv k p a l))/\∀ v,bO R φ (cS N (.fv k p a l)) v->bO R' φ' (cS N' (g (.fv k p a l))) v)) :
  ∀ cs,mg o nb cs->mg o' nb (dc g cs)/\∀ (i:Nat) (x:AV) (u:Value),(mR N' (dc g cs))[i]?=some x->(∀y,(mR N cs)[i]?=some y->bO R φ y u)->bO R' φ' x u
 |[],_=>⟨trivial,fun i x u h=>by simp[dc,mR] at h⟩
 |c::r,h=>by
   simp only[mg] at h;obtain⟨h1,h2⟩:=Rx hR jK eX hl c h.1;obtain⟨k1,k3⟩:=vE hR jK eX hl r h.2;refine⟨⟨h1,k1⟩,fun i x u hx hy=>?_⟩;cases i with
   |zero=>simp[dc,mR] at hx hy; subst hx; exact h2 u hy
   |succ i=>simp[dc,mR] at hx hy; exact k3 i x u hx hy
end
theorem Aa (L:Nat) (G:Nat->Vf):∃H:Heap,H.length=L/\∀ m,m<L->H[m]?=some (G m):=
 ⟨(List.range L).map G,by simp,fun m hm=>by simp[hm]⟩
theorem PA {N N':Names} {g:AV->AV} (hg:lN g) {r:Rt} {x:AV} (ho:NOwn x):jx N r x=cS N x/\jx N' r (cT g x)=cS N' (cT g x):=by
 constructor
 ·cases x<;>first|rfl|exact absurd rfl (ho _ _)
 ·have:∀k xs,cT g x≠.own k xs:=fun k xs e=>ho k xs ((zL hg x k xs).1 e);generalize cT g x=y at this;cases y<;>first|rfl|exact absurd rfl (this _ _)
theorem eW.F0 {X:Nat->Prop} {φ:dj} {w:World} {N:Names} {s:St} {Ha:Heap} {t:Nat->Value} (h:eW X φ w N s Ha t) (p:Rt) :
  ∃ φ' Ha',eW X φ' w N (LD s p) Ha' t/\fg φ w φ' w/\(∀q,az (LD s p) q=if q=p then none else az s q)/\Shape s (LD s p):=by
 unfold LD;cases hp:az s p with
 |none=>
   refine⟨φ,Ha,h,.refl _ _,fun q=>?_,.refl _⟩;by_cases e:q=p
   ·rw[if_pos e,e]; exact hp
   ·rw[if_neg e]
 |some y=>
   obtain⟨k,xs⟩:=y;simp only;have yH:=cC.1 hp;have hn:kh (.own k xs):=fun cs e=>by cases e
   have hv:kh (.list k xs):=fun cs e=>by cases e
   have hg:=akS p k xs;have jz:=uK hg hv yH hn;generalize MC:setAt (cB (fb p k xs) s) p (.list k xs)=s' at jz ⊢;have key:∀{r},Lf s r->at_ s' r=if r=p then some (.list k xs) else (at_ s r).map (cT (fb p k xs)):=fun hr=>by rw[<-MC]; exact Db hg hv yH hn hr
   have own:∀q,az s' q=if q=p then none else az s q:=by
    refine AM jz (fun q hq=>?_) (fun q hq=>?_)
    ·have e:=key hq;by_cases qJ:q=p
     ·subst qJ; rw[if_pos rfl] at e ⊢; unfold az; rw[e]
     ·rw[if_neg qJ] at e ⊢;rw[<-iO hg s q];exact iN (by rw[e,jT hg])
    ·split
     ·rfl
     ·exact vI hq
   have eU:=h.own p k xs hp;cases lF:N.ν p with
   |none=>
     rw[lF] at eU;have eU:xs=[]:=eU;subst eU;refine⟨φ,Ha,h.change rfl jz (fun r x y hl hx hy=>?_) id (fun q k' ys e=>?_) (fun q r _ _ e=>e),.refl _ _,own,jz⟩
     ·rw[key hl] at hy;by_cases Ig:r=p
      ·rw[if_pos Ig] at hy;subst Ig;rw[yH] at hx;cases hx; cases hy;refine⟨trivial,?_⟩;simp only[jx,cS,rU,lF];exact Le.eK k
      ·rw[if_neg Ig,hx] at hy;simp at hy;subst hy;have:=nT (N:=N) (N':=N) (o:=az s) (o':=az s') (nb:=s.H.length) rfl hg (fun k' q a l=>?_) (r:=r) (x:=x) (fun _ _ _=>rfl) (h.D8 hx)
       ·rw[jz.len]; exact this
       ·simp only[fb];refine⟨fun ho=>?_,fun ho=>?_⟩
        ·by_cases qJ:q=p
         ·rw[if_pos qJ];subst qJ;simp only[cP,hp,af,aC] at ho;obtain⟨_,⟨rfl,rfl⟩,hle⟩:=ho;rw[if_pos ⟨rfl,hle⟩];refine⟨trivial,?_⟩;simp only[cS,lF,List.drop_nil,List.take_nil];exact Le.eK k
         ·rw[if_neg qJ];simp only[cP,own,if_neg qJ] at ho ⊢;exact⟨ho,Le.refl _⟩
        ·by_cases qJ:q=p
         ·subst qJ;simp only[cP,hp,af,aC] at ho;obtain⟨_,⟨rfl,rfl⟩,hle⟩:=ho;simp at hle
         ·rw[if_neg qJ];simp only[cP,own,if_neg qJ] at ho ⊢;exact⟨ho,Le.refl _⟩
     ·rw[own] at e;split at e
      ·cases e
      ·exact⟨ys,e,rfl,ys.length,by simp⟩
   |some n=>
     rw[lF] at eU;obtain⟨_,wW⟩:=h.heap.aeA n;have hr2:∀a u,Rd X φ w a u->Rd X (φ.set n none) w a u:=wW.rd
     have conv:∀r x y,Lf s r->at_ s r=some x->at_ s' r=some y->cP (az s') s'.H.length y/\∀ v,bO (Rd X φ w) φ (jx N r x) v->bO (Rd X (φ.set n none) w) (φ.set n none) (jx N r y) v:=by
      intro r x y hl hx hy;rw[key hl] at hy;by_cases Ig:r=p
      ·rw[if_pos Ig] at hy;subst Ig;rw[yH] at hx;cases hx; cases hy;refine⟨trivial,fun v hv=>?_⟩;simp only[jx,cS,rU,lF] at hv ⊢;have:=L8 h.heap eU (off:=0) (len:=xs.length) (by omega) (by simpa using hv) (φ.set n none);simpa using this
      ·rw[if_neg Ig,hx] at hy;simp at hy;subst hy
       have hbl:=Rx (R:=Rd X φ w) (R':=Rd X (φ.set n none) w) (φ:=φ) (φ':=φ.set n none) (N:=N) (N':=N) (o:=az s) (o':=az s') (nb:=s.H.length) (g:=fb p k xs) hr2 wW.ZM rfl (fun k' q a l=>by
        simp only[fb];refine⟨fun ho=>?_,fun ho=>?_⟩
        ·by_cases qJ:q=p
         ·rw[if_pos qJ];subst qJ;simp only[cP,hp,af,aC] at ho;obtain⟨_,⟨rfl,rfl⟩,hle⟩:=ho;rw[if_pos ⟨rfl,hle⟩];refine⟨trivial,fun v hv=>?_⟩;simp only[cS,lF] at hv ⊢;exact L8 h.heap eU hle hv _
         ·rw[if_neg qJ];simp only[cP,own,if_neg qJ] at ho ⊢;exact⟨ho,fun v hv=>hv.mono hr2 wW.ZM⟩
        ·by_cases qJ:q=p
         ·rw[if_pos qJ];subst qJ;simp only[cP,hp,af,aC] at ho;obtain⟨_,⟨rfl,rfl⟩,hle⟩:=ho;rw[if_pos rfl];obtain⟨x,hx⟩:=bq hle;rw[hx];refine⟨trivial,fun v hv=>?_⟩;simp only[cS,lF] at hv ⊢;exact ab9 h.heap eU hx hv _
         ·rw[if_neg qJ];simp only[cP,own,if_neg qJ] at ho ⊢;exact⟨ho,fun v hv=>hv.mono hr2 wW.ZM⟩) x (h.D8 hx)
       refine⟨by rw[jz.len]; exact hbl.1,fun v hv=>?_⟩;by_cases hxo:∃k' ys,x=.own k' ys
       ·obtain⟨k',ys,rfl⟩:=hxo;simp only[cT,jx,rU] at hv ⊢;exact hv.mono hr2 wW.ZM
       ·obtain⟨e1,e2⟩:=PA (N:=N) (N':=N) hg (r:=r) (x:=x) (fun k ys e=>hxo ⟨k,ys,e⟩);rw[e1] at hv;rw[e2];exact hbl.2 v hv
     obtain⟨hk,hkc⟩:=KE (o:=az s') (nb:=s'.H.length) (s:=s') fun r y hl hy=>by
      obtain⟨MY,x,hx⟩:=jz.back hl hy;exact (conv r x y MY hx hy).1
     have sb:∀{b},(aJ s'.H b).isSome->(aJ s.H b).isSome:=by
      intro b hb;cases e:aJ s.H b with
      |none=>rw[jz.Fw b e] at hb; cases hb
      |some _=>rfl
     have so:∀{q},(az s' q).isSome->(az s q).isSome/\q≠p:=by
      intro q hq;rw[own] at hq;by_cases e:q=p
      ·rw[if_pos e] at hq; cases hq
      ·rw[if_neg e] at hq; exact⟨hq,e⟩
     classical
     obtain⟨Ha',hL,hG⟩:=Aa Ha.length (fun m=>if m=n then none else if hb:∃z:Nat × List AV,aJ s'.H z.1=some z.2/\N.β z.1=m then some (Vs N (.c hb.choose.1) 0 hb.choose.2) else (Ha[m]?).getD none)
     have hbox:∀b cs,aJ s'.H b=some cs->aJ Ha' (N.β b)=some (Vs N (.c b) 0 cs):=by
      intro b cs hb;obtain⟨cs0,Ij⟩:=aU.1 (sb (by rw[hb]; rfl:(aJ s'.H b).isSome));obtain⟨as,g1,_⟩:=h.box b cs0 Ij;rw[blk_iff,hG _ (dL g1)];have qd:N.β b≠n:=fun e=>h.bx b p (by rw[Ij]; rfl) (by rw[hp]; rfl) (by rw[lF,e]);have hex:∃z:Nat × List AV,aJ s'.H z.1=some z.2/\N.β z.1=N.β b:=⟨(b,cs),hb,rfl⟩;rw[if_neg qd,dif_pos hex];have e1:hex.choose.1=b:=h.bi _ _ (sb (by rw[hex.choose_spec.1]; rfl)) (by rw[Ij]; rfl) hex.choose_spec.2
      have e2:hex.choose.2=cs:=by
       have:=hex.choose_spec.1;rw[e1,hb] at this;exact (bm this).symm
      rw[e2,e1]
     have FR:∀m,m≠n->(¬∃z:Nat × List AV,aJ s'.H z.1=some z.2/\N.β z.1=m)->Ha'[m]?=Ha[m]?:=by
      intro m hm TR;by_cases bF:m<Ha.length
      ·rw[hG m bF,if_neg hm,dif_neg TR];obtain⟨x,hx⟩:=bq bF;rw[hx]; rfl
      ·rw[cE (by omega),cE (by omega)]
     refine⟨φ.set n none,Ha',⟨fun i=>?_,hk,⟨?_,h.heap.Gg,fun m cs hm=>?_,fun m hm=>?_,fun m m' g sz pg e1 e2=>?_⟩,fun q k' ys e=>?_,fun b cs e=>?_,fun q r m e1 e2 e3 e4=>?_,fun b q e1 e2 e3=>?_,fun b c e1 e2 e3=>?_⟩,wW,own,jz⟩
     ·refine af9 (fun cs dI=>?_) (fun hnn=>⟨jz.We i hnn,?_⟩) (h.env i)
      ·obtain⟨ds,h1,h2⟩:=jz.agg i cs dI;refine⟨ds,h1,h2,fun j c d hc hd=>(conv (.sc i j) c d (fun i e=>by cases e) ?_ ?_).2⟩
       ·rw[Mg dI]; exact hc
       ·rw[Mg h1]; exact hd
      ·exact (conv (.s i) _ _ (fun j e=>by cases e; exact hnn) rfl rfl).2
     ·rw[List.length_set,h.heap.len,hL]
     ·have bF:=ak hm;rw[hL] at bF;by_cases E5:m=n
      ·rw[hG m bF,if_pos E5] at hm; cases hm
      ·by_cases TR:∃z:Nat × List AV,aJ s'.H z.1=some z.2/\N.β z.1=m
       ·obtain⟨⟨b,ds⟩,hb,rfl⟩:=TR;simp only at hb hm E5;have:=hbox b ds hb;rw[blk_iff,hm] at this;cases this;obtain⟨cs0,Ij⟩:=aU.1 (sb (by rw[hb]; rfl:(aJ s'.H b).isSome));obtain⟨as,g1,g2,g3⟩:=h.box b cs0 Ij;obtain⟨g,sz,arr,e,f1,f2,f3,f4,f5,f6⟩:=h.heap.at g1;obtain⟨ds',q1,q2⟩:=jz.box b cs0 Ij;rw[hb] at q1; cases q1;refine⟨g,sz,arr,e,?_,f2,f3,by rw[gH]; omega,f5,fun i c hc=>?_⟩
        ·rw[cQ (jF E5)]; exact f1
        ·rw[gb] at hc;simp only[fX] at hc;cases hd:ds[i]? with
         |none=>rw[hd] at hc; cases hc
         |some d=>
           rw[hd] at hc;simp at hc;subst hc;obtain⟨c0,Lq⟩:=bq (l:=cs0) (i:=i) (by have:=ak hd; omega);obtain⟨_,a,a1,a2⟩:=g3 i c0 Lq;obtain⟨u,u1,u2⟩:=f6 i a a1;exact⟨u,u1,(conv (.c b i) c0 d (fun i e=>by cases e) (by rw[Af Ij]; exact Lq) (by rw[Af hb]; exact hd)).2 u (a2 _ _ _ u2)⟩
       ·rw[FR m E5 TR] at hm;obtain⟨g,sz,arr,e,f1,f2,f3,f4,f5,f6⟩:=h.heap.live m cs hm;refine⟨g,sz,arr,e,?_,f2,f3,f4,f5,fun i c hc=>?_⟩
        ·rw[cQ (jF E5)]; exact f1
        ·obtain⟨u,u1,u2⟩:=f6 i c hc;exact⟨u,u1,u2.mono hr2 wW.ZM⟩
     ·by_cases E5:m=n
      ·subst E5;have bF:=ak hm;rw[List.getElem?_set_self (by rw[h.heap.len]; omega)]
      ·rw[cQ (jF E5)];by_cases TR:∃z:Nat × List AV,aJ s'.H z.1=some z.2/\N.β z.1=m
       ·obtain⟨⟨b,ds⟩,hb,rfl⟩:=TR;simp only at hb hm E5;have:=hbox b ds hb;rw[blk_iff,hm] at this;cases this
       ·rw[FR m E5 TR] at hm;exact h.heap.dead m hm
     ·have sub:∀m g sz:Nat,(φ.set n none)[m]?=some (some (g,sz))->φ[m]?=some (some (g,sz)):=by
       intro m g sz e;rw[aR] at e;split at e
       ·split at e<;>simp at e
       ·exact e
      exact h.heap.inj m m' g sz pg (sub _ _ _ e1) (sub _ _ _ e2)
     ·have hq:=own q;rw[e] at hq;by_cases qJ:q=p
      ·rw[if_pos qJ] at hq; cases hq
      ·rw[if_neg qJ] at hq;have ho:=h.own q k' ys hq.symm;cases hνq:N.ν q with
       |none=>rw[hνq] at ho; exact ho
       |some m=>
         rw[hνq] at ho;obtain⟨cs,c1,c2⟩:=ho
         have E5:m≠n:=by
          intro e; subst e;exact qJ (h.inj q p m (by rw[<-hq]; rfl) (by rw[hp]; rfl) hνq lF)
         refine⟨cs,?_,c2⟩;rw[blk_iff,FR m E5 ?_]
         ·exact tR c1
         ·rintro⟨⟨b,ds⟩,hb,rfl⟩;exact h.bx b q (sb (by rw[hb]; rfl)) (by rw[<-hq]; rfl) hνq
     ·refine⟨_,hbox b cs e,gH _ _ _ _,fun j c hc=>⟨hkc b cs e j c hc,_,by rw[gb,hc]; simp,Le.refl _⟩⟩
     ·exact h.inj q r m (so e1).1 (so e2).1 e3 e4
     ·exact h.bx b q (sb e1) (so e2).1 e3
     ·exact h.bi b c (sb e1) (sb e2) e3
end Go.Bm

/- Owners that go, values that go to their slots, the end of a region. -/
namespace Go.Bm
open Go.Am

def SB (X:Nat->Prop) (φ:dj) (w:World) (B:Nat->Nat) (base:Nat) (s:St) (t:Nat->Value):Prop:=∃N Ha,eW X φ w N s Ha t/\(∀b,b<base->N.β b=B b)/\base<=s.H.length
section
variable {X:Nat->Prop} {φ:dj} {w:World} {N:Names} {s s':St} {Ha:Heap} {t:Nat->Value} {B:Nat->Nat} {base:Nat}

theorem SB.F0 (h:SB X φ w B base s t) (p:Rt):∃φ',SB X φ' w B base (LD s p) t/\fg φ w φ' w:=by
 obtain⟨N,Ha,h,hb,hl⟩:=h;obtain⟨φ',Ha',h1,h2,_,h3⟩:=h.F0 p;exact⟨φ',⟨N,Ha',h1,hb,by rw[h3.len]; exact hl⟩,h2⟩
theorem SB.eE:∀(ps:List Rt) {φ:dj} {s:St},SB X φ w B base s t->∃φ',SB X φ' w B base (eE ps s) t/\fg φ w φ' w
 |[],φ,s,h=>⟨φ,h,.refl _ _⟩
 |p::r,φ,s,h=>by
   obtain⟨lV,h1,a1⟩:=h.F0 p;obtain⟨nE,h2,a2⟩:=SB.eE r h1;exact⟨nE,h2,a1.trans a2⟩
theorem SB.rel (h:SB X φ w B base s t) (p:Rt):∃φ',SB X φ' w B base (rel s p) t/\fg φ w φ' w:=by
 unfold Go.Bm.rel;split
 ·exact⟨φ,h,.refl _ _⟩
 ·rename_i k xs hp;split
  ·obtain⟨N,Ha,h,hb,hl⟩:=h;exact⟨φ,⟨N,Ha,(h.drop hp).1,hb,by rw[(h.drop hp).2.2.len]; exact hl⟩,.refl _ _⟩
  ·rename_i q hq;split
   ·rename_i k' r len yH;split
    ·rename_i hr;subst hr;obtain⟨N,Ha,h,hb,hl⟩:=h;obtain⟨N',e,h',_,h3⟩:=h.give hp yH;exact⟨φ,⟨N',Ha,h',fun b bF=>by rw[e]; exact hb b bF,by rw[h3.len]; exact hl⟩,.refl _ _⟩
    ·exact h.F0 p
   ·exact h.F0 p
theorem SB.MM (i:Nat):∀(cs:List AV) (j:Nat) {φ:dj} {s:St},SB X φ w B base s t->∃φ',SB X φ' w B base (MM i j cs s) t/\fg φ w φ' w
 |[],j,φ,s,h=>⟨φ,h,.refl _ _⟩
 |x::r,j,φ,s,h=>by
   have skip:∃φ',SB X φ' w B base (Go.Bm.MM i (j+1) r s) t/\fg φ w φ' w:=SB.MM i r (j+1) h
   cases x<;>first
    |exact skip
    | (obtain ⟨lV, h1, a1⟩ := h.rel (.sc i j)
       obtain⟨nE,h2,a2⟩:=SB.MM i r (j+1) h1;exact⟨nE,h2,a1.trans a2⟩)
theorem SB.EN (h:SB X φ w B base s t) (i:Nat):∃φ',SB X φ' w B base (EN s i) t/\fg φ w φ' w:=by
 unfold Go.Bm.EN;split
 ·exact h.rel _
 ·exact SB.MM i _ 0 h
 ·exact⟨φ,h,.refl _ _⟩
theorem SB.qg (keep:List Nat):∀(e:Env) {φ:dj} {s:St},SB X φ w B base s t->∃φ',SB X φ' w B base (qg keep e s) t/\fg φ w φ' w
 |[],φ,s,h=>⟨φ,h,.refl _ _⟩
 |(i,v)::r,φ,s,h=>by
   simp only[Go.Bm.qg];split
   ·exact SB.qg keep r h
   ·obtain⟨lV,h1,a1⟩:=h.EN i;obtain⟨nE,h2,a2⟩:=SB.qg keep r h1;exact⟨nE,h2,a1.trans a2⟩
theorem SB.wx (b:Nat):∀(n j:Nat) {φ:dj} {s:St},SB X φ w B base s t->∃φ',SB X φ' w B base (wx b j n s) t/\fg φ w φ' w
 |0,j,φ,s,h=>⟨φ,h,.refl _ _⟩
 |n+1,j,φ,s,h=>by
   simp only[Go.Bm.wx];split
   ·obtain⟨lV,h1,a1⟩:=h.rel (.c b j);obtain⟨nE,h2,a2⟩:=SB.wx b n (j+1) h1;exact⟨nE,h2,a1.trans a2⟩
   ·exact SB.wx b n (j+1) h

theorem alB (he:∀i,get s'.env i=get s.env i) (hH:s'.H=s.H):at_ s'=at_ s:=by
 funext p;cases p<;>simp only[at_,he,hH]
theorem N9 (he:∀i,get s'.env i=get s.env i) (hH:s'.H=s.H):az s'=az s:=by
 funext p;unfold az;rw[alB he hH]
theorem eW.ext (h:eW X φ w N s Ha t) (he:∀i,get s'.env i=get s.env i) (hH:s'.H=s.H):eW X φ w N s' Ha t:=by
 have ho:=N9 he hH;exact⟨fun i=>by rw[he]; exact h.env i,fun i=>by rw[he,ho,hH]; exact h.Iz i,h.heap,by rw[ho]; exact h.own,by rw[ho,hH]; exact h.box,by rw[ho]; exact h.inj,by rw[ho,hH]; exact h.bx,by rw[hH]; exact h.bi⟩
theorem dR {i:Nat} (h:bV (get s.env i)=false):az s (.s i)=none/\∀ j,az s (.sc i j)=none:=by
 have hl:∀(cs:List AV),bT cs=false->∀(j:Nat) (k:Nat) (xs:List AV),cs[j]?≠some (.own k xs):=by
  intro cs
  induction cs with
  |nil=>intro _ j k xs e; simp at e
  |cons x r ih=>
    intro h j k xs e;cases j with
    |zero=>simp at e; subst e; simp[bT] at h
    |succ j=>
      simp at e;refine ih ?_ j k xs e;cases x<;>simp[bT] at h<;>exact h
 refine⟨?_,fun j=>?_⟩
 ·cases e:az s (.s i) with
  |none=>rfl
  |some y=>
    have e':=cC.1 (show az s (.s i)=some (y.1,y.2) from e);simp only[at_,af] at e';rw[e'] at h;simp[bV] at h
 ·cases e:az s (.sc i j) with
  |none=>rfl
  |some y=>
    have e':=cC.1 (show az s (.sc i j)=some (y.1,y.2) from e);simp only[at_] at e';split at e'
    ·rename_i cs dI;rw[dI] at h;simp only[bV] at h;exact absurd e' (hl cs h j _ _)
    ·cases e'
theorem eW.keep (h:eW X φ w N s Ha t) (he:∀i,get s'.env i=get s.env i\/(get s'.env i=.any/\bV (get s.env i)=false)) (hH:s'.H=s.H):eW X φ w N s' Ha t:=by
 have ho:az s'=az s:=by
  funext p;cases p with
  |s i=>
    rcases he i with e|⟨e1,e2⟩
    ·unfold az; simp only[at_,e]
    ·rw[(dR e2).1]; unfold az; simp only[at_,e1]
  |sc i j=>
    rcases he i with e|⟨e1,e2⟩
    ·unfold az; simp only[at_,e]
    ·rw[(dR e2).2 j]; unfold az; simp only[at_,e1]
  |c b j=>unfold az; simp only[at_,hH]
 refine⟨fun i=>?_,fun i=>?_,h.heap,by rw[ho]; exact h.own,by rw[ho,hH]; exact h.box,by rw[ho]; exact h.inj,by rw[ho,hH]; exact h.bx,by rw[hH]; exact h.bi⟩
 ·rcases he i with e|⟨e1,e2⟩
  ·rw[e]; exact h.env i
  ·rw[e1]; exact .any _ _
 ·rcases he i with e|⟨e1,e2⟩
  ·rw[e,ho,hH]; exact h.Iz i
  ·rw[e1]; trivial
mutual
theorem PT {o o':Rt->Option (Nat × List AV)} {n:Nat} (ho:∀p,(∀j,p≠.c n j)->o' p=o p):∀x,cP o (n+1) x->uu n x=true->cP o' n x
 |.dP k p off len,h,hp=>by
   simp only[cP] at h ⊢;rw[ho p]
   ·exact h
   ·rintro j rfl; simp[uu] at hp
 |.fv k p i off,h,hp=>by
   simp only[cP] at h ⊢;rw[ho p]
   ·exact h
   ·rintro j rfl; simp[uu] at hp
 |.ptr b off,h,hp=>by simp only[cP] at h ⊢; simp[uu] at hp; omega
 |.agg cs,h,hp=>by simp only[cP,uu] at h hp ⊢; exact zF ho cs h hp
 |.dt cs,h,hp=>by simp only[cP,uu] at h hp ⊢; exact zF ho cs h hp
 |.func f a b,h,hp=>by simp only[cP,uu,ae] at h hp ⊢; exact⟨zF ho a h.1 hp.1,zF ho b h.2.1 hp.2,h.2.2⟩
 |.any,_,_=>trivial
 |.undef,_,_=>trivial
 |.fN,_,_=>trivial
 |.fS,_,_=>trivial
 |.du,_,_=>trivial
 |.int _ _,_,_=>trivial
 |.bool _,_,_=>trivial
 |.str _,_,_=>trivial
 |.list _ _,_,_=>trivial
 |.dy _,_,_=>trivial
 |.own _ _,_,_=>trivial
 |.sl _ b _ _,h,hp=>by simp only[cP] at h ⊢; simp[uu] at hp; omega
theorem zF {o o':Rt->Option (Nat × List AV)} {n:Nat} (ho:∀p,(∀j,p≠.c n j)->o' p=o p):∀cs,mg o (n+1) cs->lk n cs=true->mg o' n cs
 |[],_,_=>trivial
 |x::r,h,hp=>by simp only[mg,lk,ae] at h hp ⊢; exact⟨PT ho x h.1 hp.1,zF ho r h.2 hp.2⟩
end
theorem KN {n:Nat}:∀{e:Env},Fu n e=true->∀i,uu n (get e i)=true
 |[],_,i=>rfl
 |(j,v)::r,h,i=>by
   simp only[Fu,ae] at h;simp only[Am.get];split
   ·exact h.1
   ·exact KN h.2 i
theorem CG {n:Nat}:∀{H:Heap},zH n H=true->∀b cs,aJ H b=some cs->lk n cs=true
 |[],_,b,cs,hb=>by simp[aJ] at hb
 |none::r,h,b,cs,hb=>by
   simp only[zH] at h;cases b with
   |zero=>simp[aJ] at hb
   |succ b=>exact CG h b cs (by simpa[aJ] using hb)
 |some ds::r,h,b,cs,hb=>by
   simp only[zH,ae] at h;cases b with
   |zero=>simp[aJ] at hb; subst hb; exact h.1
   |succ b=>exact CG h.2 b cs (by simpa[aJ] using hb)
theorem KM {n:Nat}:∀{cs:List AV},lk n cs=true->∀(j:Nat) (c:AV),cs[j]?=some c->uu n c=true
 |[],_,j,c,h=>by simp at h
 |x::r,hp,j,c,h=>by
   simp only[lk,ae] at hp;cases j with
   |zero=>simp at h; subst h; exact hp.1
   |succ j=>exact KM hp.2 j c (by simpa using h)
theorem tQ {H:Heap} {n b:Nat}:aJ (H.take n) b=if b<n then aJ H b else none:=by
 unfold aJ;rw[bP];by_cases h:b<n<;>simp[h]
theorem eW.alK {env:Env} {H:Heap} {n:Nat} (h:eW X φ w N ⟨env,H⟩ Ha t) (hl:H.length=n+1) (he:Fu n env=true) (hH:zH n (H.take n)=true):eW X φ w N ⟨env,H.take n⟩ Ha t:=by
 have ho:∀p,(∀j,p≠.c n j)->az ⟨env,H.take n⟩ p=az ⟨env,H⟩ p:=by
  intro p hp;cases p with
  |s i=>rfl
  |sc i j=>rfl
  |c b j=>
    unfold az;simp only[at_,tQ];by_cases hb:b<n
    ·rw[if_pos hb]
    ·rw[if_neg hb]
     have:aJ H b=none:=by
      cases e:aJ H b with
      |none=>rfl
      |some cs=>
        have:=dL e;simp only[hl] at this;exact absurd (by rw[show b=n by omega]) (hp j)
     rw[this]
 have hs:∀{p},(az ⟨env,H.take n⟩ p).isSome->(az ⟨env,H⟩ p).isSome:=by
  intro p hp;by_cases hc:∀j,p≠.c n j
  ·rwa [ho p hc] at hp
  ·exfalso;apply hc;rintro j rfl;unfold az at hp;simp[at_,tQ] at hp
 have hlen:(H.take n).length=n:=by simp; omega
 have BV:∀{b},(aJ (H.take n) b).isSome->(aJ H b).isSome:=by
  intro b hb;rw[tQ] at hb;split at hb
  ·exact hb
  ·cases hb
 refine⟨h.env,fun i=>?_,h.heap,fun p k xs e=>?_,fun b cs e=>?_,fun p q m e1 e2=>h.inj p q m (hs e1) (hs e2),fun b p e1 e2=>h.bx b p (BV e1) (hs e2),fun b c e1 e2=>h.bi b c (BV e1) (BV e2)⟩
 ·have:=h.Iz i;simp only[hl] at this;simp only[hlen];exact PT ho _ this (KN he i)
 ·refine h.own p k xs ?_;by_cases hc:∀j,p≠.c n j
  ·rwa [ho p hc] at e
  ·exfalso;apply hc;rintro j rfl;unfold az at e;simp[at_,tQ] at e
 ·simp only[tQ] at e;split at e
  ·obtain⟨as,g1,g2,g3⟩:=h.box b cs e;refine⟨as,g1,g2,fun j c hc=>?_⟩;obtain⟨k1,k2⟩:=g3 j c hc;refine⟨?_,k2⟩;simp only[hl] at k1;simp only[hlen];refine PT ho _ k1 (KM (CG hH b cs ?_) j c hc);rw[tQ,if_pos ‹_›];exact e
  ·cases e
theorem eW.trim {env:Env} {base0:Nat}:∀(n:Nat) {H:Heap},eW X φ w N ⟨env,H⟩ Ha t->eW X φ w N ⟨env,trim base0 env n H⟩ Ha t
 |0,H,h=>h
 |n+1,H,h=>by
   simp only[Go.Bm.trim];split
   ·rename_i hc;exact eW.trim n (h.alK hc.2.1 hc.2.2.1 hc.2.2.2)
   ·exact h
end
end Go.Bm

/- From the hand to a slot. -/
namespace Go.Bm
open Go.Am

mutual
theorem ach {N N':Names} {m:Rt->Rt} {g:AV->AV} (eX:N'.β=N.β) (hg:∀k p a l,g (.dP k p a l)=.dP k (m p) a l/\g (.fv k p a l)=.fv k (m p) a l) :
  ∀ x,(∀p∈aS x,N'.ν (m p)=N.ν p)->cS N' (cT g x)=cS N x
 |.dP k p a l,h=>by simp only[cT,(hg k p a l).1,cS]; rw[h p (by simp[aS])]
 |.fv k p a l,h=>by simp only[cT,(hg k p a l).2,cS]; rw[h p (by simp[aS])]
 |.ptr b off,_=>by simp only[cT,cS,eX]
 |.agg cs,h=>by simp only[cT,cS]; rw[I2 eX hg cs (fun p hp=>h p (by simpa[aS] using hp))]
 |.dt cs,h=>by simp only[cT,cS]; rw[I2 eX hg cs (fun p hp=>h p (by simpa[aS] using hp))]
 |.func f a b,h=>by
   simp only[cT,cS];rw[I2 eX hg a (fun p hp=>h p (by simp only[aS,aF]; exact .inl hp)),I2 eX hg b (fun p hp=>h p (by simp only[aS,aF]; exact .inr hp))]
 |.any,_=>rfl
 |.undef,_=>rfl
 |.fN,_=>rfl
 |.fS,_=>rfl
 |.du,_=>rfl
 |.int _ _,_=>rfl
 |.bool _,_=>rfl
 |.str _,_=>rfl
 |.list _ _,_=>rfl
 |.dy _,_=>rfl
 |.own _ _,_=>rfl
 |.sl _ b _ _,_=>by simp only[cT,cS,eX]
theorem I2 {N N':Names} {m:Rt->Rt} {g:AV->AV} (eX:N'.β=N.β) (hg:∀k p a l,g (.dP k p a l)=.dP k (m p) a l/\g (.fv k p a l)=.fv k (m p) a l) :
  ∀ cs,(∀p∈dn cs,N'.ν (m p)=N.ν p)->mR N' (dc g cs)=mR N cs
 |[],_=>rfl
 |x::r,h=>by
   simp only[dc,mR];rw[ach eX hg x (fun p hp=>h p (by simp only[dn,aF]; exact .inl hp)),I2 eX hg r (fun p hp=>h p (by simp only[dn,aF]; exact .inr hp))]
end
mutual
theorem Ss {o o':Rt->Option (Nat × List AV)} {nb:Nat} {m:Rt->Rt} {g:AV->AV} (hg:∀k p a l,g (.dP k p a l)=.dP k (m p) a l/\g (.fv k p a l)=.fv k (m p) a l) :
  ∀ x,(∀p∈aS x,o' (m p)=o p)->cP o nb x->cP o' nb (cT g x)
 |.dP k p a l,h,hk=>by simp only[cT,(hg k p a l).1,cP] at hk ⊢; rw[h p (by simp[aS])]; exact hk
 |.fv k p a l,h,hk=>by simp only[cT,(hg k p a l).2,cP] at hk ⊢; rw[h p (by simp[aS])]; exact hk
 |.ptr b off,_,hk=>hk
 |.agg cs,h,hk=>by simp only[cT,cP] at hk ⊢; exact KF hg cs (fun p hp=>h p (by simpa[aS] using hp)) hk
 |.dt cs,h,hk=>by simp only[cT,cP] at hk ⊢; exact KF hg cs (fun p hp=>h p (by simpa[aS] using hp)) hk
 |.func f a b,h,hk=>by
   simp only[cT,cP] at hk ⊢;exact⟨KF hg a (fun p hp=>h p (by simp only[aS,aF]; exact .inl hp)) hk.1,KF hg b (fun p hp=>h p (by simp only[aS,aF]; exact .inr hp)) hk.2.1,fun hy=>by obtain⟨rfl,c,rfl⟩:=hk.2.2 hy; exact⟨rfl,c,rfl⟩⟩
 |.any,_,_=>trivial
 |.undef,_,_=>trivial
 |.fN,_,_=>trivial
 |.fS,_,_=>trivial
 |.du,_,_=>trivial
 |.int _ _,_,_=>trivial
 |.bool _,_,_=>trivial
 |.str _,_,_=>trivial
 |.list _ _,_,_=>trivial
 |.dy _,_,_=>trivial
 |.own _ _,_,_=>trivial
 |.sl _ _ _ _,_,h=>h
theorem KF {o o':Rt->Option (Nat × List AV)} {nb:Nat} {m:Rt->Rt} {g:AV->AV} (hg:∀k p a l,g (.dP k p a l)=.dP k (m p) a l/\g (.fv k p a l)=.fv k (m p) a l) :
  ∀ cs,(∀p∈dn cs,o' (m p)=o p)->mg o nb cs->mg o' nb (dc g cs)
 |[],_,_=>trivial
 |x::r,h,hk=>by
   simp only[dc,mg] at hk ⊢;exact⟨Ss hg x (fun p hp=>h p (by simp only[dn,aF]; exact .inl hp)) hk.1,KF hg r (fun p hp=>h p (by simp only[dn,aF]; exact .inr hp)) hk.2⟩
end
theorem mX {cs:List AV} {j:Nat} {c:AV} (h:cs[j]?=some c) {p:Rt} (hp:p∈aS c):p∈dn cs:=by
 induction cs generalizing j with
 |nil=>simp at h
 |cons x r ih=>
   simp only[dn,aF];cases j with
   |zero=>simp at h; subst h; exact .inl hp
   |succ j=>exact .inr (ih (by simpa using h))
theorem B8 {N N':Names} {m:Rt->Rt} {g:AV->AV} (eX:N'.β=N.β) (hg:∀k p a l,g (.dP k p a l)=.dP k (m p) a l/\g (.fv k p a l)=.fv k (m p) a l) {r r':Rt} {x:AV} (hr:∀k xs,x=.own k xs->N'.ν r'=N.ν r) (hx:∀p∈aS x,N'.ν (m p)=N.ν p) :
  jx N' r' (cT g x)=jx N r x:=by
 have hL:lN g:=fun k p a l=>by rw[(hg k p a l).1,(hg k p a l).2]; exact⟨⟨(fun cs e=>by cases e),(fun k xs e=>by cases e)⟩,⟨(fun cs e=>by cases e),(fun k xs e=>by cases e)⟩⟩
 by_cases ho:∃k xs,x=.own k xs
 ·obtain⟨k,xs,rfl⟩:=ho;simp only[cT,jx,rU,hr k xs rfl]
 ·obtain⟨e1,e2⟩:=PA (N:=N) (N':=N') hL (r:=r) (x:=x) (fun k xs e=>ho ⟨k,xs,e⟩);obtain⟨_,e3⟩:=PA (N:=N) (N':=N') hL (r:=r') (x:=x) (fun k xs e=>ho ⟨k,xs,e⟩);rw[e1,e3,ach eX hg x hx]
theorem Pz {N N':Names} {m:Rt->Rt} {g:AV->AV} (eX:N'.β=N.β) (hg:∀k p a l,g (.dP k p a l)=.dP k (m p) a l/\g (.fv k p a l)=.fv k (m p) a l) {i i':Nat} {x:AV} (h1:N'.ν (.s i')=N.ν (.s i)) (h2:∀j,N'.ν (.sc i' j)=N.ν (.sc i j)) (hx:∀p∈aS x,N'.ν (m p)=N.ν p) :
  lT N' i' (cT g x)=lT N i x:=by
 have hL:lN g:=fun k p a l=>by rw[(hg k p a l).1,(hg k p a l).2]; exact⟨⟨(fun cs e=>by cases e),(fun k xs e=>by cases e)⟩,⟨(fun cs e=>by cases e),(fun k xs e=>by cases e)⟩⟩
 by_cases ha:∃cs,x=.agg cs
 ·obtain⟨cs,rfl⟩:=ha;simp only[cT,lT];congr 1;apply dN;intro j;rw[gb,gb,eV];simp only[fX];cases hc:cs[j]? with
  |none=>rfl
  |some c=>
    simp only[cD];rw[B8 eX hg (r:=.sc i j) (fun _ _ _=>h2 j) (fun p hp=>hx p (by simp only[aS]; exact mX hc hp))]
 ·have hn:kh x:=fun cs e=>ha ⟨cs,e⟩;have Q0:kh (cT g x):=nS hL hn
  have e1:lT N' i' (cT g x)=jx N' (.s i') (cT g x):=by
   generalize cT g x=y at Q0;cases y<;>first|rfl|exact absurd rfl (Q0 _)
  have e2:lT N i x=jx N (.s i) x:=by cases x<;>first|rfl|exact absurd rfl (hn _)
  rw[e1,e2];exact B8 eX hg (fun _ _ _=>h1) hx
section
variable {X:Nat->Prop} {φ:dj} {w:World} {N:Names} {s s':St} {Ha:Heap} {t t':Nat->Value} {B:Nat->Nat} {base:Nat}
theorem Ej (i d:Nat):∀k p a l,mvB i d (.dP k p a l)=.dP k (kf i d p) a l/\mvB i d (.fv k p a l)=.fv k (kf i d p) a l:=fun _ _ _ _=>⟨rfl,rfl⟩
theorem Fx {i d:Nat} {p:Rt} (h:bL d p=false):kf d i (kf i d p)=p:=by
 cases p with
 |s j=>
   simp only[bL,decide_eq_false_iff_not] at h;simp only[kf];by_cases e:j=i
   ·subst e; simp[kf]
   ·simp[e,kf,h]
 |sc j l=>
   simp only[bL,decide_eq_false_iff_not] at h;simp only[kf];by_cases e:j=i
   ·subst e; simp[kf]
   ·simp[e,kf,h]
 |c b j=>rfl
theorem SI {i d:Nat} {q:Rt} (h:bL i q=false):kf i d (kf d i q)=q:=Fx h
theorem eW.hand {i d:Nat} (h:eW X φ w N s Ha t) (hid:i≠d) (hC:∀r x,at_ s r=some x->∀p∈aS x,bL d p=false)
  (he:∀j,get s'.env j=if j=d then cT (mvB i d) (get s.env i) else if j=i then .any else cT (mvB i d) (get s.env j)) (hH:s'.H=gn (mvB i d) s.H) (ht:∀j,j≠i->t' j=if j=d then t i else t j) :
  ∃ N',N'.β=N.β/\eW X φ w N' s' Ha t':=by
 have hg:=Ej i d;have hL:=akR i d
 have atq:∀q,bL i q=false->at_ s' q=(at_ s (kf d i q)).map (cT (mvB i d)):=by
  intro q hq;rw[<-jT hL];cases q with
  |s j=>
    simp only[bL,decide_eq_false_iff_not] at hq;simp only[at_,he,kf,cB];by_cases e:j=d
    ·simp[e,dx,at_]
    ·simp[e,hq,dx,at_]
  |sc j l=>
    simp only[bL,decide_eq_false_iff_not] at hq;simp only[at_,he,kf,cB];by_cases e:j=d
    ·simp[e,dx,at_]
    ·simp[e,hq,dx,at_]
  |c b j=>simp only[at_,hH,kf,cB]
 have atn:∀q,bL i q=true->az s' q=none:=by
  intro q hq;cases q with
  |s j=>simp only[bL,decide_eq_true_eq] at hq; subst hq; unfold az; simp[at_,he,hid]
  |sc j l=>simp only[bL,decide_eq_true_eq] at hq; subst hq; unfold az; simp[at_,he,hid]
  |c b j=>simp[bL] at hq
 have own:∀q,bL i q=false->az s' q=az s (kf d i q):=by
  intro q hq;rw[<-iO hL s (kf d i q)];exact PR (by rw[atq q hq,jT hL])
 have own2:∀p,bL d p=false->az s' (kf i d p)=az s p:=by
  intro p hp
  have hi:bL i (kf i d p)=false:=by
   cases p with
   |s j=>simp only[kf]; split<;>simp_all [bL]; exact fun e=>hid e.symm
   |sc j l=>simp only[kf]; split<;>simp_all [bL]; exact fun e=>hid e.symm
   |c b j=>rfl
  rw[own _ hi,Fx hp]
 have hlen:s'.H.length=s.H.length:=by rw[hH,fM]
 obtain⟨N',eX,hN⟩:∃N':Names,N'.β=N.β/\∀ q,N'.ν q=N.ν (kf d i q):=⟨⟨N.β,fun q=>N.ν (kf d i q)⟩,rfl,fun _=>rfl⟩;have lF:∀p,bL d p=false->N'.ν (kf i d p)=N.ν p:=fun p hp=>by rw[hN,Fx hp]
 refine⟨N',eX,⟨fun j=>?_,fun j=>?_,h.heap,fun p k xs e=>?_,fun b cs e=>?_,fun p q n e1 e2 e3 e4=>?_,fun b p e1 e2 e3=>?_,fun b c e1 e2 e3=>?_⟩⟩
 ·rw[he];by_cases hjd:j=d
  ·subst hjd;rw[if_pos rfl,ht j (jF hid),if_pos rfl];rw[Pz (N:=N) (i:=i) eX hg (by simp[hN,kf]) (fun l=>by simp[hN,kf]) (fun p hp=>lF p (hC (.s i) _ rfl p hp))];exact h.env i
  ·rw[if_neg hjd];by_cases Dh:j=i
   ·rw[if_pos Dh]; exact .any _ _
   ·rw[if_neg Dh,ht j Dh,if_neg hjd];rw[Pz (N:=N) (i:=j) eX hg (by simp[hN,kf,hjd]) (fun l=>by simp[hN,kf,hjd]) (fun p hp=>lF p (hC (.s j) _ rfl p hp))];exact h.env j
 ·rw[he,hlen];by_cases hjd:j=d
  ·rw[if_pos hjd];exact Ss hg _ (fun p hp=>own2 p (hC (.s i) _ rfl p hp)) (h.Iz i)
  ·rw[if_neg hjd];by_cases Dh:j=i
   ·rw[if_pos Dh]; trivial
   ·rw[if_neg Dh];exact Ss hg _ (fun p hp=>own2 p (hC (.s j) _ rfl p hp)) (h.Iz j)
 ·cases hq:bL i p with
  |true=>rw[atn p hq] at e; cases e
  |false=>rw[own p hq] at e; rw[hN]; exact h.own _ k xs e
 ·rw[hH,fF] at e;cases hb:aJ s.H b with
  |none=>rw[hb] at e; cases e
  |some ds=>
    rw[hb] at e;simp at e;subst e;obtain⟨as,g1,g2,g3⟩:=h.box b ds hb;refine⟨as,by rw[eX]; exact g1,by rw[cN]; exact g2,fun j c hc=>?_⟩;rw[eV] at hc;cases hd:ds[j]? with
    |none=>rw[hd] at hc; cases hc
    |some c0=>
      rw[hd] at hc;simp at hc;subst hc;have hcc:=fun p hp=>hC (.c b j) c0 (by rw[Af hb]; exact hd) p hp;obtain⟨k1,a,k2,k3⟩:=g3 j c0 hd;refine⟨by rw[hlen]; exact Ss hg _ (fun p hp=>own2 p (hcc p hp)) k1,a,k2,?_⟩;rw[B8 (N:=N) (r:=.c b j) eX hg (fun _ _ _=>by rw[hN]; rfl) (fun p hp=>lF p (hcc p hp))];exact k3
 ·have hp:bL i p=false:=by
   cases hq:bL i p with
   |true=>rw[atn p hq] at e1; cases e1
   |false=>rfl
  have hq:bL i q=false:=by
   cases hq:bL i q with
   |true=>rw[atn q hq] at e2; cases e2
   |false=>rfl
  rw[own p hp] at e1;rw[own q hq] at e2;rw[hN] at e3 e4;have:=h.inj _ _ n e1 e2 e3 e4;rw[<-SI (d:=d) hp,this,SI hq]
 ·have hp:bL i p=false:=by
   cases hq:bL i p with
   |true=>rw[atn p hq] at e2; cases e2
   |false=>rfl
  rw[own p hp] at e2;rw[hN,eX] at e3;refine h.bx b _ ?_ e2 e3;rw[hH,fF] at e1;cases hb:aJ s.H b with
  |none=>rw[hb] at e1; cases e1
  |some _=>rfl
 ·have sb:∀{b},(aJ s'.H b).isSome->(aJ s.H b).isSome:=by
   intro b hb;rw[hH,fF] at hb;cases e:aJ s.H b with
   |none=>rw[e] at hb; cases hb
   |some _=>rfl
  rw[eX] at e3;exact h.bi b c (sb e1) (sb e2) e3
end
end Go.Bm

/- A value goes to its slot. -/
namespace Go.Bm
open Go.Am
mutual
theorem Ft {o:Rt->Option (Nat × List AV)} {nb:Nat}:∀x,cP o nb x->∀p∈aS x,(o p).isSome
 |.dP k q a l,h,p,hp=>by simp only[aS,cU] at hp; subst hp; simp only[cP] at h; obtain⟨xs,e,_⟩:=h; rw[e]; rfl
 |.fv k q a l,h,p,hp=>by simp only[aS,cU] at hp; subst hp; simp only[cP] at h; obtain⟨xs,e,_⟩:=h; rw[e]; rfl
 |.agg cs,h,p,hp=>by simp only[cP,aS] at h hp; exact D7 cs h p hp
 |.dt cs,h,p,hp=>by simp only[cP,aS] at h hp; exact D7 cs h p hp
 |.func f a b,h,p,hp=>by
   simp only[cP,aS,aF] at h hp;rcases hp with hp|hp
   ·exact D7 a h.1 p hp
   ·exact D7 b h.2.1 p hp
 |.any,_,p,hp=>by simp[aS] at hp
 |.undef,_,p,hp=>by simp[aS] at hp
 |.fN,_,p,hp=>by simp[aS] at hp
 |.fS,_,p,hp=>by simp[aS] at hp
 |.du,_,p,hp=>by simp[aS] at hp
 |.int _ _,_,p,hp=>by simp[aS] at hp
 |.bool _,_,p,hp=>by simp[aS] at hp
 |.str _,_,p,hp=>by simp[aS] at hp
 |.list _ _,_,p,hp=>by simp[aS] at hp
 |.dy _,_,p,hp=>by simp[aS] at hp
 |.own _ _,_,p,hp=>by simp[aS] at hp
 |.ptr _ _,_,p,hp=>by simp[aS] at hp
 |.sl _ _ _ _,_,p,hp=>by simp[aS] at hp
theorem D7 {o:Rt->Option (Nat × List AV)} {nb:Nat}:∀cs,mg o nb cs->∀p∈dn cs,(o p).isSome
 |[],_,p,hp=>by simp[dn] at hp
 |x::r,h,p,hp=>by
   simp only[mg,dn,aF] at h hp;rcases hp with hp|hp
   ·exact Ft x h.1 p hp
   ·exact D7 r h.2 p hp
end
mutual
theorem uw {g:AV->AV} {m:Rt->Rt} (hg:∀k p a l,g (.dP k p a l)=.dP k (m p) a l/\g (.fv k p a l)=.fv k (m p) a l):∀x,(∀p∈aS x,m p=p)->cT g x=x
 |.dP k p a l,h=>by simp only[cT,(hg k p a l).1]; rw[h p (by simp[aS])]
 |.fv k p a l,h=>by simp only[cT,(hg k p a l).2]; rw[h p (by simp[aS])]
 |.agg cs,h=>by simp only[cT]; rw[tB hg cs (fun p hp=>h p (by simpa[aS] using hp))]
 |.dt cs,h=>by simp only[cT]; rw[tB hg cs (fun p hp=>h p (by simpa[aS] using hp))]
 |.func f a b,h=>by
   simp only[cT];rw[tB hg a (fun p hp=>h p (by simp only[aS,aF]; exact .inl hp)),tB hg b (fun p hp=>h p (by simp only[aS,aF]; exact .inr hp))]
 |.any,_=>rfl
 |.undef,_=>rfl
 |.fN,_=>rfl
 |.fS,_=>rfl
 |.du,_=>rfl
 |.int _ _,_=>rfl
 |.bool _,_=>rfl
 |.str _,_=>rfl
 |.list _ _,_=>rfl
 |.dy _,_=>rfl
 |.own _ _,_=>rfl
 |.ptr _ _,_=>rfl
 |.sl _ _ _ _,_=>rfl
theorem tB {g:AV->AV} {m:Rt->Rt} (hg:∀k p a l,g (.dP k p a l)=.dP k (m p) a l/\g (.fv k p a l)=.fv k (m p) a l):∀cs,(∀p∈dn cs,m p=p)->dc g cs=cs
 |[],_=>rfl
 |x::r,h=>by
   simp only[dc];rw[uw hg x (fun p hp=>h p (by simp only[dn,aF]; exact .inl hp)),tB hg r (fun p hp=>h p (by simp only[dn,aF]; exact .inr hp))]
end
theorem IE {g:AV->AV} {m:Rt->Rt} (hg:∀k p a l,g (.dP k p a l)=.dP k (m p) a l/\g (.fv k p a l)=.fv k (m p) a l):∀H:Heap,(∀b cs,aJ H b=some cs->∀p∈dn cs,m p=p)->gn g H=H
 |[],_=>rfl
 |none::r,h=>by simp only[gn]; rw[IE hg r (fun b cs hb=>h (b+1) cs (by simpa[aJ] using hb))]
 |some cs::r,h=>by simp only[gn]; rw[IE hg r (fun b ds hb=>h (b+1) ds (by simpa[aJ] using hb)),tB hg cs (h 0 cs rfl)]
theorem lK {f:Rt->Bool}:∀{l:List Rt},Ai f l=false->∀p∈l,f p=false
 |[],_,p,hp=>by simp at hp
 |q::r,h,p,hp=>by
   simp only[Ai,fa] at h;rcases aG.1 hp with e|e
   ·subst e; exact h.1
   ·exact lK h.2 p e
theorem tT {f:Rt->Bool}:∀{e:Env},Mm f e=false->∀i,∀p∈aS (get e i),f p=false
 |[],_,i,p,hp=>by simp[Am.get,aS] at hp
 |(j,v)::r,h,i,p,hp=>by
   simp only[Mm,fa] at h;simp only[Am.get] at hp;split at hp
   ·exact lK h.1 p hp
   ·exact tT h.2 i p hp
theorem xh {f:Rt->Bool}:∀{H:Heap},Mk f H=false->∀b cs,aJ H b=some cs->∀p∈dn cs,f p=false
 |[],_,b,cs,hb,p,hp=>by simp[aJ] at hb
 |none::r,h,b,cs,hb,p,hp=>by
   simp only[Mk] at h;cases b with
   |zero=>simp[aJ] at hb
   |succ b=>exact xh h b cs (by simpa[aJ] using hb) p hp
 |some ds::r,h,b,cs,hb,p,hp=>by
   simp only[Mk,fa] at h;cases b with
   |zero=>simp[aJ] at hb; subst hb; exact lK h.1 p hp
   |succ b=>exact xh h.2 b cs (by simpa[aJ] using hb) p hp
theorem QF {cs:List AV} {p:Rt} (hp:p∈dn cs):∃(j:Nat) (c:AV),cs[j]?=some c/\p∈aS c:=by
 induction cs with
 |nil=>simp[dn] at hp
 |cons x r ih=>
   simp only[dn,aF] at hp;rcases hp with hp|hp
   ·exact⟨0,x,rfl,hp⟩
   ·obtain⟨j,c,h1,h2⟩:=ih hp;exact⟨j+1,c,by simpa using h1,h2⟩
theorem OE:∀(e:Env) (l:List Nat),∃i,Am.get e i=.any/\i∉l:=by
 have key:∀e:Env,∃n,∀i,n<=i->Am.get e i=.any:=by
  intro e
  induction e with
  |nil=>exact⟨0,fun i _=>rfl⟩
  |cons p r ih=>
    obtain⟨j,v⟩:=p;obtain⟨n,hn⟩:=ih;refine⟨max n (j+1),fun i hi=>?_⟩;simp only[Am.get];rw[if_neg (by omega)];exact hn i (by omega)
 intro e l;obtain⟨n,hn⟩:=key e
 have:∃m,∀x∈l,x<m:=by
  induction l with
  |nil=>exact⟨0,fun x hx=>by simp at hx⟩
  |cons y r ih=>
    obtain⟨m,hm⟩:=ih;refine⟨max m (y+1),fun x hx=>?_⟩;rcases aG.1 hx with e|e
    ·omega
    ·have:=hm x e; omega
 obtain⟨m,hm⟩:=this;exact⟨max n m,hn _ (by omega),fun h=>by have:=hm _ h; omega⟩
section
variable {X:Nat->Prop} {φ:dj} {w:World} {s s':St} {t t':Nat->Value} {B:Nat->Nat} {base:Nat} {v:AV} {v':Value}
structure dU (X:Nat->Prop) (φ:dj) (w:World) (B:Nat->Nat) (base:Nat) (s:St) (v:AV) (t:Nat->Value) (v':Value):Prop where
 st:SB X φ w B base s t
 ok:cP (az s) s.H.length v
 put:∀i,get s.env i=.any->SB X φ w B base ⟨put s.env i v,s.H⟩ (fun j=>if j=i then v' else t j)
theorem QI {r:Rt} {x:AV} (h:SB X φ w B base s t) (hx:at_ s r=some x):∀p∈aS x,(az s p).isSome:=by
 obtain⟨N,Ha,h,_⟩:=h;exact Ft x (h.D8 hx)
theorem ah8 {b:Nat} {cs:List AV} (h:SB X φ w B base s t) (hb:aJ s.H b=some cs):∀p∈dn cs,(az s p).isSome:=by
 intro p hp;obtain⟨j,c,h1,h2⟩:=QF hp;exact QI h (r:=.c b j) (by rw[Af hb]; exact h1) p h2
theorem agU {i d:Nat} {p:Rt} (h:bL i p=false):kf i d p=p:=by
 cases p with
 |s j=>simp only[bL,decide_eq_false_iff_not] at h; simp[kf,h]
 |sc j l=>simp only[bL,decide_eq_false_iff_not] at h; simp[kf,h]
 |c b j=>rfl
theorem xg {i:Nat} {p:Rt} (hi:bV (get s.env i)=false) (hp:(az s p).isSome):bL i p=false:=by
 obtain⟨h1,h2⟩:=dR hi;cases p with
 |s j=>
   simp only[bL,decide_eq_false_iff_not];rintro rfl;rw[h1] at hp; cases hp
 |sc j l=>
   simp only[bL,decide_eq_false_iff_not];rintro rfl;rw[h2] at hp; cases hp
 |c b j=>rfl
theorem SB.hand {i d:Nat} (h:SB X φ w B base s t) (hid:i≠d) (hC:∀r x,at_ s r=some x->∀p∈aS x,bL d p=false)
  (he:∀j,get s'.env j=if j=d then cT (mvB i d) (get s.env i) else if j=i then .any else cT (mvB i d) (get s.env j)) (hH:s'.H=gn (mvB i d) s.H) (ht:∀j,j≠i->t' j=if j=d then t i else t j):SB X φ w B base s' t':=by
 obtain⟨N,Ha,h,hb,hl⟩:=h;obtain⟨N',e,h'⟩:=h.hand hid hC he hH ht;exact⟨N',Ha,h',fun b bF=>by rw[e]; exact hb b bF,by rw[hH,fM]; exact hl⟩
theorem aj2 (h:dU X φ w B base s v t v') {d:Nat} (hp:putB s d v=some s') (hd:d≠fw) (ht:∀j,t' j=if j=d then v' else t j):∃φ',SB X φ' w B base s' t'/\fg φ w φ' w:=by
 unfold putB at hp;split at hp
 ·split at hp
  case h_2=>cases hp
  rename_i M4;split at hp
  ·cases hp
  rename_i ho;simp at hp;subst hp;obtain⟨lV,h1,a1⟩:=(h.put fw M4).EN d;refine⟨lV,h1.hand (i:=fw) (d:=d) (jF hd) (fun r x hx p hp=>xg (by simpa using ho) (QI h1 hx p hp)) (fun j=>?_) ?_ (fun j hj=>?_),a1⟩
  ·simp only[Qt,bN,cB,dx]
  ·simp only[Qt,cB]
  ·rw[ht,if_pos rfl,if_neg hj]
 ·rename_i hs;simp at hp;subst hp;obtain⟨i,hi,hid⟩:=OE s.env [d];have hid':i≠d:=fun e=>hid (by simp[e]);have hio:bV (get s.env i)=false:=by rw[hi]; rfl
  have MB:=h.put i hi;have SH:∀{p},(az s p).isSome->kf i d p=p:=fun hp=>agU (xg hio hp);refine⟨φ,MB.hand (i:=i) (d:=d) hid' (fun r x hx p hp=>?_) (fun j=>?_) ?_ (fun j hj=>?_),.refl _ _⟩
  ·simp only[Rm,ae,not_and,Bool.not_eq_true] at hs;cases hod:bV (get s.env d) with
   |false=>
     refine xg (s:=⟨put s.env i v,s.H⟩) (i:=d) ?_ (QI MB hx p hp);simp only[bN];rw[if_neg (jF hid')];exact hod
   |true=>
     have hn:=hs hod;simp only[Mn,fa] at hn;cases r with
     |s j=>
       simp only[at_,bN,af] at hx;subst hx;split at hp
       ·exact lK hn.1 p hp
       ·exact tT hn.2.1 j p hp
     |sc j l=>
       simp only[at_,bN] at hx;split at hx
       ·rename_i cs dI;split at dI
        ·subst dI;exact lK hn.1 p (by simp only[aS]; exact mX hx hp)
        ·exact tT hn.2.1 j p (by rw[dI]; simp only[aS]; exact mX hx hp)
       ·cases hx
     |c b l=>
       simp only[at_] at hx;split at hx
       ·rename_i cs dI;exact xh hn.2.2 b cs dI p (mX hx hp)
       ·cases hx
  ·simp only[bN];by_cases hjd:j=d
   ·rw[if_pos hjd,if_pos hjd,if_pos trivial,uw (Ej i d) v (fun p hp=>SH (Ft v h.ok p hp))]
   ·rw[if_neg hjd,if_neg hjd];by_cases Dh:j=i
    ·rw[if_pos Dh,Dh]; exact hi
    ·rw[if_neg Dh,if_neg Dh,uw (Ej i d) _ (fun p hp=>SH (QI h.st (r:=.s j) rfl p hp))]
  ·exact (IE (Ej i d) s.H (fun b cs hb p hp=>SH (ah8 h.st hb p hp))).symm
  ·rw[ht,if_pos rfl,if_neg hj]
theorem ags (h:dU X φ w B base s v t v') {d:Option Nat} (hp:BR s d v=some s') (hd:d≠some fw) (ht:∀j,t' j=if some j=d then v' else t j):∃φ',SB X φ' w B base s' t'/\fg φ w φ' w:=by
 cases d with
 |none=>
   simp[BR] at hp;subst hp;refine⟨φ,?_,.refl _ _⟩;obtain⟨N,Ha,h1,hb⟩:=h.st;have:t'=t:=by funext j; rw[ht,if_neg (by simp)]
   rw[this];exact⟨N,Ha,h1,hb⟩
 |some d=>exact aj2 h (by simpa[BR] using hp) (fun e=>hd (by rw[e])) (fun j=>by rw[ht]; simp)
end
end Go.Bm

/- Operations that change nothing, in both machines. -/
namespace Go.Bm
open Go.Am

def CS:AV->Bool
 |.bool _|.int _ _|.du|.fN|.fS|.undef|.str _=>true
 |_=>false
def pz:List AV->Bool
 |[]=>true
 |x::r=>CS x&&pz r
def isC:AV->Bool
 |.agg cs=>pz cs
 |.func f [] []=>!Ew f
 |x=>CS x
theorem aa8 {v:Value} {x:AV} (h:LU v x=true):CS x=true:=by
 unfold LU at h;split at h<;>first|rfl|cases h
theorem QC:∀{vs:List Value} {xs:List AV},tI vs xs=true->pz xs=true
 |[],[],_=>rfl
 |[],_::_,h=>by simp[tI] at h
 |_::_,[],h=>by simp[tI] at h
 |v::r,x::s,h=>by
   simp only[tI,ae] at h;simp only[pz,ae];exact⟨aa8 h.1,QC h.2⟩
theorem Ey {x:AV} (h:CS x=true):isC x=true:=by cases x<;>first|(simp[CS] at h; done)|rfl|exact h
theorem alq {o:Operand} {a:AV} (h:cY o (.k a)=true):isC a=true:=by
 unfold cY at h;split at h
 ·rename_i hk; cases hk
 ·rename_i v x hk;cases hk;unfold chkV at h;split at h
  ·exact QC h
  ·exact Ey (aa8 h)
 ·rename_i f g hk; cases hk; rfl
 ·rename_i hk; cases hk
 ·cases h
theorem ack (N:Names) {x:AV} (h:CS x=true):cS N x=x:=by cases x<;>first|rfl|simp[CS] at h
theorem acj (N:Names):∀{xs:List AV},pz xs=true->mR N xs=xs
 |[],_=>rfl
 |x::r,h=>by
   simp only[pz,ae] at h;simp only[mR];rw[ack N h.1,acj N h.2]
theorem tr_c (N:Names) {x:AV} (h:isC x=true):cS N x=x:=by
 unfold isC at h;split at h
 ·simp only[cS]; rw[acj N h]
 ·rfl
 ·exact ack N h
theorem dn_c {x:AV} (h:isC (dnV x)=true):(∃k,x=.own k []/\dnV x=.du)\/(isC x=true/\dnV x=x):=by
 unfold dnV at h ⊢;split
 ·exact .inl ⟨_,rfl,rfl⟩
 ·rename_i hn;split at h
  ·rename_i k; exact absurd rfl (hn k)
  ·exact .inr ⟨h,rfl⟩

def gL (N:Names):AV->AV
 |.own _ _=>.du
 |x=>cS N x
def iI (N:Names):List AV->List AV
 |[]=>[]
 |x::r=>gL N x::iI N r
def yE (N:Names):AV->AV
 |.own _ _=>.du
 |.agg cs=>.agg (iI N cs)
 |x=>cS N x
def EO:AV->Prop
 |.own _ xs=>xs=[]
 |.agg cs=>∀(j k:Nat) (xs:List AV),cs[j]?=some (.own k xs)->xs=[]
 |_=>True
theorem qt (N:Names):∀(cs:List AV) (i:Nat),(iI N cs)[i]?=(cs[i]?).map (gL N)
 |[],i=>by simp[iI]
 |x::r,i=>by cases i<;>simp[iI,qt N r]
theorem jy (N:Names):∀cs:List AV,(iI N cs).length=cs.length
 |[]=>rfl
 |x::r=>by simp[iI,jy N r]
theorem mQ (N:Names):∀{cs:List AV},bT cs=false->iI N cs=mR N cs
 |[],_=>rfl
 |x::r,h=>by
   simp only[iI,mR];cases x<;>simp[bT] at h<;>rw[mQ N h]<;>rfl
theorem nq (N:Names) {x:AV} (h:bV x=false):yE N x=cS N x:=by
 cases x<;>first|rfl|(simp[bV] at h; done)|skip
 rename_i cs;simp only[bV] at h;simp only[yE,cS];rw[mQ N h]
theorem afX (N:Names) {x:AV} (h:∀cs,x=.agg cs->bT cs=false):gL N x=yE N x:=by
 cases x<;>first|rfl|skip
 rename_i cs;simp only[gL,cS,yE];rw[mQ N (h cs rfl)]
theorem Oq (f:Nat->Rt):∀(cs:List AV) (j:Nat),bT (fc f j cs)=false
 |[],j=>rfl
 |x::r,j=>by
   have ih:=Oq f r (j+1);cases x<;>simp[fc,bT,ih]
theorem SY (i:Nat) (v:AV):bV (fo i v)=false:=by
 cases v<;>simp[fo,bV]
 exact Oq _ _ _
theorem FH (f:Nat->Rt):∀(cs:List AV) (j i:Nat),(fc f j cs)[i]?=(cs[i]?).map (fun x=>match x with
  |.own k xs=>.dP k (f (j+i)) 0 xs.length
  |x=>x)
 |[],j,i=>by simp[fc]
 |x::r,j,i=>by
   cases i with
   |zero=>cases x<;>simp[fc]
   |succ i=>
     have ih:=FH f r (j+1) i;rw[show j+1+i=j+(i+1) by omega] at ih;cases x<;>simp[fc,ih]
theorem I3 (N:Names) (f:Nat->Rt):∀(cs:List AV) (j:Nat),mR N (fc f j cs)=Vs N f j cs
 |[],j=>rfl
 |x::r,j=>by
   have ih:=I3 N f r (j+1);cases x<;>simp[fc,mR,Vs,jx,ih]
   simp only[cS,rU,qU]
theorem XH (N:Names) (i:Nat) (v:AV):cS N (fo i v)=lT N i v:=by
 cases v<;>first|rfl|skip
 ·simp only[fo,cS,lT]; rw[I3]
 ·simp only[fo,cS,lT,jx,rU,qU]
section
variable {X:Nat->Prop} {φ:dj} {w:World} {N:Names} {s:St} {Ha:Heap} {t:Nat->Value} {c:eI} {cA:Am.eI}
theorem aiT {o:Rt->Option (Nat × List AV)} {nb:Nat} {x:AV} (h:CS x=true):cP o nb x:=by cases x<;>first|trivial|simp[CS] at h
theorem adY {o:Rt->Option (Nat × List AV)} {nb:Nat}:∀{xs:List AV},pz xs=true->mg o nb xs
 |[],_=>trivial
 |x::r,h=>by simp only[pz,ae] at h; exact⟨aiT h.1,adY h.2⟩
theorem ok_c {o:Rt->Option (Nat × List AV)} {nb:Nat} {x:AV} (h:isC x=true):cP o nb x:=by
 unfold isC at h;split at h
 ·exact adY h
 ·exact⟨trivial,trivial,fun hy=>by rw[hy] at h; cases h⟩
 ·exact aiT h
theorem FK:∀{xs:List AV},pz xs=true->bT xs=false
 |[],_=>rfl
 |x::r,h=>by
   simp only[pz,ae] at h;have:=FK h.2;cases x<;>first|(simp[CS] at h; done)|simpa[bT] using this
theorem ahb {x:AV} (h:isC x=true):bV x=false:=by
 unfold isC at h;split at h
 ·exact FK h
 ·rfl
 ·rename_i h1 h2;cases x<;>first|rfl|(simp[CS] at h; done)
theorem Z6 (h:eW X φ w N s Ha t) (i:Nat):cP (az s) s.H.length (fo i (get s.env i)):=by
 have hk:=h.Iz i;have yH:at_ s (.s i)=some (get s.env i):=rfl;cases hv:get s.env i<;>rw[hv] at hk yH<;>try exact hk
 ·rename_i cs;simp only[fo,cP] at hk ⊢;refine gE.2 fun j c hc=>?_;rw[FH] at hc;cases hd:cs[j]? with
  |none=>rw[hd] at hc; cases hc
  |some d=>
    rw[hd] at hc;simp only[cD,af,fX] at hc;subst hc;have hdk:=gE.1 hk j d hd;split
    ·rename_i k xs;simp only[cP];exact⟨xs,cC.2 (by rw[Mg hv]; exact hd),by omega⟩
    ·exact hdk
 ·rename_i k xs;simp only[fo,cP];exact⟨xs,cC.2 yH,by omega⟩
structure rZ (N:Names) (s:St) (c:eI) (cA:Am.eI) (x:E):Prop where
 ev:Am.ev cA (Dg N s.env) (ny x)=gL N (bp c s.env x)
 ok:cP (az s) s.H.length (bp c s.env x)
 eo:∀k xs,bp c s.env x=.own k xs->xs=[]
 na:∀cs,bp c s.env x=.agg cs->bT cs=false
theorem cJ (h:eW X φ w N s Ha t) (tY:cA.gl=c.gl) {o:Operand} {x:E} (hk:cY o (ny x)=true):rZ N s c cA x:=by
 cases x with
 |t i=>
   have hl:=SY i (get s.env i);refine⟨?_,Z6 h i,fun k xs e=>?_,fun cs e=>?_⟩
   ·simp only[ny,Am.ev,bp,oY];rw[<-XH];generalize fo i (get s.env i)=y at hl;cases y<;>first|rfl|simp[bV] at hl
   ·simp only[bp] at e; rw[e] at hl; simp[bV] at hl
   ·simp only[bp] at e; rw[e] at hl; exact hl
 |k a=>
   simp only[ny] at hk;rcases dn_c (alq hk) with⟨k,rfl,e⟩|⟨hc,e⟩
   ·exact⟨rfl,trivial,fun k' xs e=>by simp only[bp,AV.own.injEq] at e; exact e.2.symm,fun cs e=>by simp[bp] at e⟩
   ·refine⟨?_,ok_c hc,fun k xs e'=>?_,fun cs e'=>?_⟩
    ·simp only[ny,Am.ev,bp,e];have:=tr_c N hc;have hn:=ahb hc;cases a<;>first|exact this.symm|(simp[bV] at hn; done)
    ·simp only[bp] at e'; rw[e'] at hc; simp[isC,CS] at hc
    ·simp only[bp] at e'; rw[e'] at hc; exact FK hc
 |g i=>exact⟨by simp[ny,Am.ev,bp,gL,cS,tY],trivial,fun k xs e=>by simp[bp] at e,fun cs e=>by simp[bp] at e⟩
theorem rZ.int {x:E} (h:rZ N s c cA x) {k:IntKind} {n:Int} (e:bp c s.env x=.int k n):Am.ev cA (Dg N s.env) (ny x)=.int k n:=by rw[h.ev,e]; rfl
theorem rZ.bool {x:E} (h:rZ N s c cA x) {b:Bool} (e:bp c s.env x=.bool b):Am.ev cA (Dg N s.env) (ny x)=.bool b:=by rw[h.ev,e]; rfl
theorem vJ (h:eW X φ w N s Ha t) (tY:cA.gl=c.gl):∀{os:List Operand} {xs:List E},jB os (F1 xs)=true->Am.IM cA (Dg N s.env) (F1 xs)=iI N (dC c s.env xs)/\mg (az s) s.H.length (dC c s.env xs)
 |_,[],_=>⟨rfl,trivial⟩
 |[],x::r,hk=>by simp[F1,jB] at hk
 |o::os,x::r,hk=>by
   simp only[F1,jB,ae] at hk;obtain⟨h1,h2⟩:=vJ h tY hk.2;have h3:=cJ (c:=c) h tY hk.1;exact⟨by simp only[F1,Am.IM,dC,iI,h1,h3.ev],h3.ok,h2⟩
theorem vj (h:eW X φ w N s Ha t) {k:Nat} {p:Rt} {off len:Nat} (ho:cP (az s) s.H.length (.dP k p off len)) :
  (∃n,N.ν p=some n/\cS N (.dP k p off len)=.sl k n (off*k) len)\/(N.ν p=none/\off=0/\len=0/\cS N (.dP k p off len)=.du):=by
 simp only[cP] at ho;obtain⟨xs,h1,h2⟩:=ho;cases lF:N.ν p with
 |some n=>exact .inl ⟨n,rfl,by simp[cS,lF]⟩
 |none=>
   have:=h.own p k xs h1;rw[lF] at this;have hx:xs=[]:=this;subst hx;simp at h2;exact .inr ⟨rfl,h2.1,h2.2,by simp[cS,lF]⟩
theorem Ku (h:eW X φ w N s Ha t) {k:Nat} {p:Rt} {i off:Nat} (ho:cP (az s) s.H.length (.fv k p i off)):∃n,N.ν p=some n/\cS N (.fv k p i off)=.ptr n (i*k+off):=by
 simp only[cP] at ho;obtain⟨xs,h1,h2⟩:=ho;cases lF:N.ν p with
 |some n=>exact⟨n,rfl,by simp[cS,lF]⟩
 |none=>
   have:=h.own p k xs h1;rw[lF] at this;have hx:xs=[]:=this;subst hx;simp at h2
end
end Go.Bm

/- Operations that change nothing: the older machine does the same. -/
namespace Go.Bm
open Go.Am
section
variable {P:Program}
theorem alm {op:Op} {y:E} (h:cX P op (.mv y)=true):∃x,cY x y=true:=by
 unfold cX at h; split at h<;>simp_all<;>exact⟨_,h⟩
theorem afq {op:Op} {a b d:E} (h:cX P op (.pick a b d)=true):(∃x,cY x a=true)/\(∃x,cY x b=true)/\∃ x,cY x d=true:=by
 unfold cX at h; split at h<;>simp_all; exact⟨⟨_,h.1.1⟩,⟨_,h.1.2⟩,⟨_,h.2⟩⟩
theorem ah1 {op:Op} {y:E} (h:cX P op (.box y)=true):∃x,cY x y=true:=by
 unfold cX at h; split at h<;>simp_all; exact⟨_,h⟩
theorem ab3 {op:Op} {y:E} (h:cX P op (.oS y)=true):∃x,cY x y=true:=by
 unfold cX at h; split at h<;>simp_all; exact⟨_,h⟩
theorem ah2 {op:Op} {bo:BinOp} {a b:E} (h:cX P op (.bin bo a b)=true):(∃x,cY x a=true)/\∃ x,cY x b=true:=by
 unfold cX at h; split at h<;>simp_all; exact⟨⟨_,h.1.2⟩,⟨_,h.2⟩⟩
theorem alp {op:Op} {ng:Bool} {t:Et} {a b:E} (h:cX P op (.eq ng t a b)=true):(∃x,cY x a=true)/\∃ x,cY x b=true:=by
 unfold cX at h; split at h<;>simp_all; exact⟨⟨_,h.1.2⟩,⟨_,h.2⟩⟩
theorem alj {op:Op} {uo:UnOp} {y:E} (h:cX P op (.un uo y)=true):∃x,cY x y=true:=by
 unfold cX at h; split at h<;>simp_all; exact⟨_,h.2⟩
theorem ahZ {op:Op} {k:IntKind} {y:E} (h:cX P op (.Q5 k y)=true):∃x,cY x y=true:=by
 unfold cX at h; split at h<;>simp_all; exact⟨_,h.2⟩
theorem ahP {op:Op} {fn:Fn} {a b:List E} (h:cX P op (.U0 fn a b)=true):(∃x,jB x a=true)/\∃ x,jB x b=true:=by
 unfold cX at h; split at h<;>simp_all; exact⟨⟨_,h.1.2⟩,⟨_,h.2⟩⟩
theorem aa5 {op:Op} {k:Nat} {zs:List AV} {a b:E} (h:cX P op (.P6 k zs a b)=true):(∃t,jt P t k=true/\iT P t zs=true)/\(∃x,cY x a=true)/\∃ x,cY x b=true:=by
 unfold cX at h; split at h<;>simp_all; exact⟨⟨_,h.1.1⟩,⟨_,h.1.2⟩,⟨_,h.2⟩⟩
theorem ahX {op:Op} {off:Nat} {y:E} (h:cX P op (.yf off y)=true):∃x,cY x y=true:=by
 unfold cX at h; split at h<;>simp_all; exact⟨_,h.2⟩
theorem aa6 {op:Op} {n:Nat} {y:E} {hi:Option E} (h:cX P op (.Na n y hi)=true):(∃x,cY x y=true)/\∀ e,hi=some e->∃x,cY x e=true:=by
 unfold cX at h; split at h<;>simp_all
 refine⟨⟨_,h.2.1⟩,fun e he=>?_⟩;subst he; have:=h.2.2; unfold tM at this; split at this<;>simp_all; exact⟨_,this⟩
theorem ahW {op:Op} {off:Nat} {ag:Option Nat} {y:E} (h:cX P op (.fld off ag y)=true):∃x,cY x y=true:=by
 unfold cX at h; split at h<;>simp_all; exact⟨_,h.2⟩
theorem ahV {op:Op} {k:Nat} {a b:E} (h:cX P op (.qc k a b)=true):(∃x,cY x a=true)/\∃ x,cY x b=true:=by
 unfold cX at h; split at h<;>simp_all; exact⟨⟨_,h.1.2⟩,⟨_,h.2⟩⟩
theorem ahU {op:Op} {n k:Nat} {a b:E} (h:cX P op (.Ic n k a b)=true):(∃x,cY x a=true)/\∃ x,cY x b=true:=by
 unfold cX at h; split at h<;>simp_all; exact⟨⟨_,h.1.2⟩,⟨_,h.2⟩⟩
theorem alo {op:Op} {n k:Nat} {ag:Option Nat} {a b:E} (h:cX P op (.ix n k ag a b)=true):(∃x,cY x a=true)/\∃ x,cY x b=true:=by
 unfold cX at h; split at h<;>simp_all; exact⟨⟨_,h.1.2⟩,⟨_,h.2⟩⟩
theorem ahY {op:Op} {i:Nat} {y:E} (h:cX P op (.ext i y)=true):∃x,cY x y=true:=by
 unfold cX at h; split at h<;>simp_all; exact⟨_,h.2⟩
theorem ahT {op:Op} {tab:List Nat} {y:E} (h:cX P op (.ixs tab y)=true):∃x,cY x y=true:=by
 unfold cX at h; split at h<;>simp_all; exact⟨_,h.2⟩
theorem ahS {op:Op} {y:E} (h:cX P op (.len y)=true):∃x,cY x y=true:=by
 unfold cX at h; split at h<;>simp_all
 split at h<;>simp_all; exact⟨_,h.2⟩
theorem ahQ {op:Op} {ys:List E} (h:cX P op (.min ys)=true):∃x,jB x ys=true:=by
 unfold cX at h; split at h<;>simp_all; exact⟨_,h⟩
theorem ahR {op:Op} {ys:List E} (h:cX P op (.max ys)=true):∃x,jB x ys=true:=by
 unfold cX at h; split at h<;>simp_all; exact⟨_,h⟩
theorem ahN {op:Op} {k:Nat} {y:E} {lo hi:Option E} (h:cX P op (.Fc k y lo hi)=true):(∃x,cY x y=true)/\(∀e,lo=some e->∃x,cY x e=true)/\∀ e,hi=some e->∃x,cY x e=true:=by
 unfold cX at h; split at h<;>simp_all
 refine⟨⟨_,h.1.1.2⟩,fun e he=>?_,fun e he=>?_⟩
 ·subst he; have:=h.1.2; unfold tM at this; split at this<;>simp_all; exact⟨_,this⟩
 ·subst he; have:=h.2; unfold tM at this; split at this<;>simp_all; exact⟨_,this⟩
theorem Bf {place:Nat->Option (Nat × Nat)}:∀{ps:List (Nat × Operand)} {qs:List (Nat × Nat × E)},tJ place ps qs=true->∀q∈qs,∃x,cY x q.2.2=true
 |[],[],_,q,hq=>by simp at hq
 |[],_::_,h,_,_=>by simp[tJ] at h
 |_::_,[],h,_,_=>by simp[tJ] at h
 |p::r,q::s,h,q',hq=>by
   simp only[tJ,ae] at h;rcases aG.1 hq with e|e
   ·subst e; exact⟨_,h.1.2⟩
   ·exact Bf h.2 q' e
theorem ab5 {op:Op} {zs:List AV} {ps:List (Nat × Nat × E)} (h:cX P op (.build zs ps)=true):(∃t,qZ P t zs=true)/\∀ q∈ps,∃x,cY x q.2.2=true:=by
 unfold cX at h; split at h<;>simp_all
 obtain⟨h1,h2⟩:=h;refine⟨⟨_,h1⟩,?_⟩;split at h2
 ·simp_all; exact fun a b e hq=>Bf h2.2 (a,b,e) hq
 ·split at h2
  ·exact fun a b e hq=>Bf h2 (a,b,e) hq
  ·cases h2
 ·cases h2
theorem Xe {op:Op} {k n:Nat} {zs:List AV} {ps:List (Nat × Nat × E)} (h:cX P op (.dK k n zs ps)=true):(∃t,jt P t k=true/\iT P t zs=true)/\∀ q∈ps,∃x,cY x q.2.2=true:=by
 unfold cX at h; split at h<;>simp_all
 exact⟨⟨_,h.1.1.1.2,h.1.1.2⟩,fun a b e hq=>Bf h.2 (a,b,e) hq⟩
theorem aln {op:Op} {ag:Option Nat} {y:E} (h:cX P op (.ld ag y)=true):∃x,cY x y=true:=by
 unfold cX at h; split at h<;>simp_all; exact⟨_,h.2⟩
theorem alk {op:Op} {k:Nat} {a b:E} (h:cX P op (.st k a b)=true):(∃x,cY x a=true)/\∃ x,cY x b=true:=by
 unfold cX at h; split at h<;>simp_all; exact⟨⟨_,h.1.2⟩,⟨_,h.2⟩⟩
theorem ahO {op:Op} {zs:List AV} (h:cX P op (.new zs)=true):∃t,qZ P t zs=true:=by
 unfold cX at h; split at h<;>simp_all; exact⟨_,h⟩
theorem ah0 {op:Op} {k:Nat} {zs:List AV} {y:E} (h:cX P op (.clr k zs y)=true):(∃t,jt P t k=true/\iT P t zs=true)/\∃ x,cY x y=true:=by
 unfold cX at h; split at h<;>simp_all
 split at h<;>simp_all; exact⟨⟨_,h.1.1,h.1.2⟩,⟨_,h.2⟩⟩
theorem aa7 {op:Op} {k:Nat} {a b:E} (h:cX P op (.app k a b)=true):(∃x,cY x a=true)/\∃ x,cY x b=true:=by
 unfold cX at h; split at h<;>simp_all
 split at h<;>simp_all; exact⟨⟨_,h.1.2⟩,⟨_,h.2⟩⟩
theorem Uz {op:Op} {k:Nat} {a b:E} (h:cX P op (.copy k a b)=true):(∃x,cY x a=true)/\∃ x,cY x b=true:=by
 unfold cX at h; split at h<;>simp_all
 split at h<;>simp_all; exact⟨⟨_,h.1.2⟩,⟨_,h.2⟩⟩
theorem vq {t:TypeId} {zs:List AV} (h:qZ P t zs=true):pz zs=true/\bC zs=true:=by
 unfold qZ at h;split at h
 ·split at h
  ·simp only[ae] at h; exact⟨QC h.1,h.2⟩
  ·cases h
 ·cases h
end
end Go.Bm

/- Operations that change nothing: what they give. -/
set_option linter.unusedVariables false
namespace Go.Bm
open Go.Am
section
variable {P:Program} {X:Nat->Prop} {φ:dj} {w:World} {N:Names} {s:St} {Ha:Heap} {t:Nat->Value} {c:eI} {cA:Am.eI} {call:Nat->List AV->Heap->Option (AV × Heap)}
theorem vt (N:Names) (cs:List AV):iI N cs=cs.map (gL N):=by
 induction cs with
 |nil=>rfl
 |cons x r ih=>simp[iI,ih]
theorem XJ (N:Names) (cs:List AV):mR N cs=cs.map (cS N):=by
 induction cs with
 |nil=>rfl
 |cons x r ih=>simp[mR,ih]
theorem rZ.EO {x:E} (h:rZ N s c cA x):EO (bp c s.env x):=by
 cases e:bp c s.env x<;>simp only[Go.Bm.EO]
 ·rename_i cs;intro j k xs hj;exfalso;have:=h.na cs e;clear e
  induction cs generalizing j with
  |nil=>simp at hj
  |cons y r ih=>
    cases j with
    |zero=>simp at hj; subst hj; simp[bT] at this
    |succ j=>exact ih j (by simpa using hj) (by cases y<;>simp[bT] at this<;>exact this)
 ·exact h.eo _ _ e
theorem rZ.evQ {x:E} (h:rZ N s c cA x):Am.ev cA (Dg N s.env) (ny x)=yE N (bp c s.env x):=by rw[h.ev,afX N h.na]
theorem P8 (h:eW X φ w N s Ha t) {x:AV} (hl:x.leaf=true) (hk:cP (az s) s.H.length x):(gL N x).leaf=true:=by
 cases x<;>first|rfl|(simp[AV.leaf] at hl; done)|skip
 ·rename_i k p off len;simp only[gL,cS];cases N.ν p<;>rfl
 ·rename_i k p i off;obtain⟨n,_,e⟩:=Ku h hk;simp only[gL,e,AV.leaf]
theorem xj (h:eW X φ w N s Ha t):∀{cs:List AV},bC cs=true->mg (az s) s.H.length cs->bC (iI N cs)=true
 |[],_,_=>rfl
 |x::r,hl,hk=>by
   simp only[bC,ae] at hl;simp only[iI,bC,ae];exact⟨P8 h hl.1 hk.1,xj h hl.2 hk.2⟩
theorem L0 (N:Names) {x:AV} (hn:∀cs,x=.agg cs->bT cs=false):(gL N x).cells=iI N x.cells:=by
 cases x<;>first|rfl|skip
 ·rename_i cs; simp only[gL,cS,AV.cells]; rw[mQ N (hn cs rfl)]
 ·rename_i k p off len;simp only[gL,cS,AV.cells,iI];cases N.ν p<;>rfl
 ·rename_i k p i off;simp only[gL,cS,AV.cells,iI];cases N.ν p<;>rfl
theorem zD {o:Rt->Option (Nat × List AV)} {nb:Nat} {x:AV} (h:cP o nb x):mg o nb x.cells:=by
 cases x<;>first|exact⟨h,trivial⟩|exact h
theorem Sv {o:Rt->Option (Nat × List AV)} {nb n:Nat} {cs:List AV} (h:mg o nb cs):mg o nb (cs.take n):=
 gE.2 fun i c hc=>gE.1 h i c (by rw[bP] at hc; split at hc; exact hc; cases hc)
theorem Ea {o:Rt->Option (Nat × List AV)} {nb n:Nat} {cs:List AV} (h:mg o nb cs):mg o nb (cs.drop n):=
 gE.2 fun i c hc=>gE.1 h (n+i) c (by rw[bf] at hc; exact hc)
theorem tx {o:Rt->Option (Nat × List AV)} {nb:Nat}:∀{cs ds:List AV},mg o nb cs->mg o nb ds->mg o nb (cs++ds)
 |[],_,_,h=>h
 |x::r,_,h,k=>⟨h.1,tx h.2 k⟩
theorem agR {o:Rt->Option (Nat × List AV)} {nb off:Nat} {cs ds:List AV} (h:mg o nb cs) (k:mg o nb ds):mg o nb (j9 cs off ds):=tx (tx (Sv h) k) (Ea h)
theorem aje (N:Names) (cs ds:List AV) (off:Nat):iI N (j9 cs off ds)=j9 (iI N cs) off (iI N ds):=by
 simp only[vt,j9,List.map_append,List.map_take,Ar,aQ]
def EOL (cs:List AV):Prop:=∀(j k:Nat) (xs:List AV),cs[j]?=some (.own k xs)->xs=[]
theorem EOL.j9 {cs ds:List AV} {off:Nat} (h:EOL cs) (k:EOL ds):EOL (Am.j9 cs off ds):=by
 intro j kk xs hj;have:=bn hj;simp only[Am.j9,aF] at this
 have mem:∀{l:List AV},EOL l->(.own kk xs)∈l->xs=[]:=fun hl hm=>by
  obtain⟨i,hi⟩:=bE hm;exact hl i _ _ hi
 rcases this with (hm|hm)|hm
 ·exact mem h (dh hm)
 ·exact mem k hm
 ·exact mem h (di hm)
theorem rZ.EOL {x:E} (h:rZ N s c cA x):EOL (bp c s.env x).cells:=by
 have he:=h.EO;cases e:bp c s.env x<;>rw[e] at he<;>simp only[AV.cells]<;>first|exact he|skip
 all_goals
  intro j k xs hj;cases j with
  |zero=>simp at hj<;>exact hj.2▸(by first|exact he|exact he)
  |succ j=>simp at hj
theorem uD (h:eW X φ w N s Ha t) (tY:cA.gl=c.gl):∀{ps:List (Nat × Nat × E)} {zs cs:List AV},(∀q∈Un ps,∃x,cY x q.2.2=true)->mg (az s) s.H.length zs->EOL zs->sE c s.env zs ps=some cs ->
  qO cA (Dg N s.env) (iI N zs) (Un ps)=some (iI N cs)/\mg (az s) s.H.length cs/\EOL cs/\cs.length=zs.length
 |[],zs,cs,_,hz,he,hf=>by simp[sE] at hf; subst hf; exact⟨rfl,hz,he,rfl⟩
 |(off,sz,x)::r,zs,cs,hq,hz,he,hf=>by
   simp only[sE] at hf;split at hf
   case isFalse=>cases hf
   rename_i hc;obtain⟨c1,c2,c3⟩:=hc;obtain⟨o,ho⟩:=hq (off,sz,ny x) (by simp[Un]);have hx:=cJ (c:=c) (cA:=cA) h tY ho;have iS:=L0 N hx.na;obtain⟨k1,k2,k3,k4⟩:=uD h tY (ps:=r) (fun q hq'=>hq q (by simp[Un,hq'])) (agR hz (zD hx.ok)) (he.j9 hx.EOL) hf;refine⟨?_,k2,k3,?_⟩
   ·simp only[Un,qO,hx.ev,iS];rw[if_pos ⟨by rw[jy]; exact c1,by rw[jy]; exact c2,xj h c3 (zD hx.ok)⟩,<-aje];exact k1
   ·rw[k4]; exact gK (by omega)
theorem ER (N:Names):∀{zs:List AV},pz (wZ zs)=true->wZ zs=iI N zs/\EOL zs
 |[],_=>⟨rfl,fun j k xs h=>by simp at h⟩
 |x::r,h=>by
   simp only[wZ,pz,ae] at h;obtain⟨h1,h2⟩:=ER N h.2;rcases dn_c (Ey h.1) with⟨k,rfl,e⟩|⟨hc,e⟩
   ·refine⟨by simp only[wZ,iI,h1,e,gL],fun j k xs hj=>?_⟩;cases j with
    |zero=>simp at hj; exact hj.2
    |succ j=>exact h2 j k xs (by simpa using hj)
   ·rw[e] at h;refine⟨?_,fun j k xs hj=>?_⟩
    ·simp only[wZ,iI,h1,e];congr 1;have:=ack N h.1;cases x<;>first|exact this.symm|(simp[CS] at h; done)
    ·cases j with
     |zero=>simp at hj; subst hj; simp[CS] at h
     |succ j=>exact h2 j k xs (by simpa using hj)
theorem D6 {o:Rt->Option (Nat × List AV)} {nb:Nat}:∀{zs:List AV},pz (wZ zs)=true->mg o nb zs
 |[],_=>trivial
 |x::r,h=>by
   simp only[wZ,pz,ae] at h;rcases dn_c (Ey h.1) with⟨k,rfl,e⟩|⟨hc,e⟩
   ·exact⟨trivial,D6 h.2⟩
   ·exact⟨ok_c hc,D6 h.2⟩
theorem WU (N:Names):∀{l:List Bool} {xs ys:List AV} {e:Bool},Bb l xs ys=some e->Bb l (iI N xs) (iI N ys)=some e
 |[],[],[],e,h=>h
 |true::l,x::r,y::s,e,h=>by
   cases x<;>try (simp[Bb] at h; done)
   cases y<;>try (simp[Bb] at h; done)
   simp only[Bb,iI,gL,cS] at h ⊢;split at h
   ·rename_i hk;rw[if_pos hk];split at h
    ·rename_i e' he;rw[WU N he];exact h
    ·cases h
   ·cases h
 |false::l,x::r,y::s,e,h=>by
   cases x<;>try (simp[Bb] at h; done)
   cases y<;>try (simp[Bb] at h; done)
   simp only[Bb,iI,gL,cS] at h ⊢;split at h
   ·rename_i e' he;rw[WU N he];exact h
   ·cases h
 |[],x::r,ys,e,h=>by simp[Bb] at h
 |[],[],y::s,e,h=>by simp[Bb] at h
 |b::l,[],ys,e,h=>by cases b<;>simp[Bb] at h
 |b::l,x::r,[],e,h=>by cases b<;>cases x<;>simp[Bb] at h
theorem aam (N:Names) (mx:Bool):∀{xs:List AV} {x v:AV},CM mx x xs=some v->(∃k n,x=.int k n)->CM mx x (iI N xs)=some v/\∃ k n,v=.int k n
 |[],x,v,h,hx=>by simp[CM] at h; subst h; exact⟨rfl,hx⟩
 |y::r,x,v,h,hx=>by
   obtain⟨k,n,rfl⟩:=hx;cases y<;>try (simp[CM] at h; done)
   simp only[CM,iI,gL,cS] at h ⊢;exact aam N mx h ⟨_,_,rfl⟩
theorem aan (N:Names) {mx:Bool} {xs:List AV} {v:AV} (h:Br mx xs=some v):Br mx (iI N xs)=some v/\∃ k n,v=.int k n:=by
 cases xs with
 |nil=>simp[Br] at h
 |cons y r=>
   cases y<;>try (simp[Br] at h; done)
   simp only[Br,iI,gL,cS] at h ⊢;exact aam N mx h ⟨_,_,rfl⟩
theorem abc {op:BinOp} {x y v:AV} (h:sP op x y=some v):((∃k n,x=.int k n)/\(∃k n,y=.int k n)/\((∃k n,v=.int k n)\/∃ b,v=.bool b))\/(∃a,x=.str a)/\(∃b,y=.str b)/\∃ s,v=.str s:=by
 unfold sP at h;split at h
 case h_3=>cases h
 case h_2=>
  split at h
  case h_2=>cases h
  split at h
  case isFalse=>cases h
  simp only[af] at h;exact .inr ⟨⟨_,rfl⟩,⟨_,rfl⟩,_,h.symm⟩
 refine .inl ⟨⟨_,_,rfl⟩,⟨_,_,rfl⟩,?_⟩;split at h
 ·split at h
  ·cases h
  ·simp at h; exact .inl ⟨_,_,h.symm⟩
 ·split at h
  ·cases h
  ·simp at h; exact .inl ⟨_,_,h.symm⟩
 ·split at h
  ·unfold arith at h
   split at h<;>first
    |(simp at h; exact .inl ⟨_,_,h.symm⟩)
    |(simp at h; exact .inr ⟨_,h.symm⟩)
    | (split at h
       ·cases h
       ·simp at h; exact .inl ⟨_,_,h.symm⟩)
    |cases h
  ·cases h
theorem Rn {v:AV} (h:(∃k n,v=.int k n)\/∃ b,v=.bool b) (o:Rt->Option (Nat × List AV)) (nb:Nat):yE N v=v/\cP o nb v/\EO v:=by
 rcases h with⟨k,n,rfl⟩|⟨b,rfl⟩<;>exact⟨rfl,trivial,trivial⟩
theorem VM (N:Names) {ag:Option Nat} {cs:List AV} {v:AV} {o:Rt->Option (Nat × List AV)} {nb:Nat} (h:PJ ag cs=some v) (hk:mg o nb cs):Fj ag (mR N cs)=some (yE N v)/\cP o nb v/\EO v/\bV v=false:=by
 unfold PJ at h;split at h
 case h_2=>cases h
 rename_i v' hr;split at h
 ·cases h
 rename_i ho;simp at h ho;subst h
 have he:EO v':=by
  cases v'<;>simp only[EO]<;>try (simp[bV] at ho; done)
  rename_i ds;intro j k xs hj;exfalso;simp only[bV] at ho;clear hr
  induction ds generalizing j with
  |nil=>simp at hj
  |cons y r ih=>
    cases j with
    |zero=>simp at hj; subst hj; simp[bT] at ho
    |succ j=>exact ih (by cases y<;>simp[bT] at ho<;>exact ho) j (by simpa using hj)
 unfold Fj at hr ⊢;cases ag with
 |some k=>
   simp only at hr ⊢;split at hr
   case isFalse=>cases hr
   rename_i hle;simp at hr;subst hr;rw[if_pos (by rw[dQ]; exact hle),nq N ho];exact⟨by simp only[cS,XJ,List.map_take],Sv hk,he,ho⟩
 |none=>
   simp only at hr ⊢;cases cs with
   |nil=>cases hr
   |cons x r=>
     simp at hr;subst hr;rw[nq N ho];exact⟨by simp[mR],hk.1,he,ho⟩
theorem I5 (N:Names) (cs:List AV) (n:Nat):(mR N cs).drop n=mR N (cs.drop n):=by simp only[XJ,Ar]
end
end Go.Bm

/- Operations that change nothing: the older machine does the same. -/
namespace Go.Bm
open Go.Am
section
variable {P:Program} {X:Nat->Prop} {φ:dj} {w:World} {N:Names} {s:St} {Ha:Heap} {t:Nat->Value} {c:eI} {cA:Am.eI} {call:Nat->List AV->Heap->Option (AV × Heap)}
theorem Xj (h:eW X φ w N s Ha t) (tY:cA.gl=c.gl) {d m n:Nat} {x:Option E} (hk:∀e,dnO x=some e->∃o,cY o e=true) (hb:Da c s.env d m x=some n):EW cA (Dg N s.env) d m (dnO x)=some n:=by
 cases x with
 |none=>exact hb
 |some x=>
   obtain⟨o,ho⟩:=hk _ rfl;simp only[Da] at hb;simp only[dnO,EW];cases e:bp c s.env x<;>rw[e] at hb<;>try (simp[bnd] at hb; done)
   rw[(cJ (c:=c) (cA:=cA) h tY ho).int e];exact hb
theorem FP {x:AV} {n m:Nat} (h:idx x n=some m):∃k i,x=.int k i/\idx (.int k i) n=some m/\m<n:=by
 unfold idx at h;split at h
 ·rename_i k i;refine⟨k,i,rfl,h,?_⟩;split at h
  ·simp at h; omega
  ·cases h
 ·cases h
theorem aas (h:eW X φ w N s Ha t) {x:E} (hx:rZ N s c cA x) {n:Nat} (hl:wK (bp c s.env x)=some n):lenA (Am.ev cA (Dg N s.env) (ny x))=some n:=by
 rw[hx.ev];have hk:=hx.ok;cases e:bp c s.env x<;>rw[e] at hl hk<;>try (simp[wK] at hl; done)
 ·exact hl
 ·exact hl
 ·exact hl
 ·rename_i k xs;have:=hx.eo k xs e;subst this;exact hl
 ·rename_i k p off len;simp only[wK] at hl;cases hl;simp only[gL];rcases vj h hk with⟨m,_,e2⟩|⟨_,_,rfl,e2⟩<;>rw[e2]<;>rfl
theorem aj8 (h:eW X φ w N s Ha t) (tY:cA.gl=c.gl) {op:Op} {kd:Kd} {v:AV} (hk:cX P op (mV kd)=true) (hs:VZ c s.env kd=some v) :
  fO cA call (Dg N s.env) Ha (mV kd)=some (yE N v,Ha,.no)/\cP (az s) s.H.length v/\EO v:=by
 cases kd<;>simp only[VZ,reduceCtorEq] at hs<;>simp only[mV] at hk ⊢
 case mv x=>
  obtain⟨o,ho⟩:=alm hk;have hx:=cJ (c:=c) (cA:=cA) h tY ho;simp at hs;subst hs;exact⟨by simp only[fO,hx.evQ],hx.ok,hx.EO⟩
 case pick x a b=>
  obtain⟨⟨o1,h1⟩,⟨o2,h2⟩,o3,h3⟩:=afq hk;have hx:=cJ (c:=c) (cA:=cA) h tY h1;have ha:=cJ (c:=c) (cA:=cA) h tY h2;have hb:=cJ (c:=c) (cA:=cA) h tY h3;split at hs
  case h_2=>cases hs
  rename_i b' he;simp at hs;subst hs;simp only[fO,hx.bool he];cases b'
  ·exact⟨by simp[hb.evQ],by simpa using hb.ok,by simpa using hb.EO⟩
  ·exact⟨by simp[ha.evQ],by simpa using ha.ok,by simpa using ha.EO⟩
 case build zs ps=>
  obtain⟨⟨t,ht⟩,hq⟩:=ab5 hk;obtain⟨e1,e2⟩:=ER N (vq ht).1;split at hs
  case h_2=>cases hs
  rename_i cs hf;simp at hs;subst hs;obtain⟨k1,k2,k3,k4⟩:=uD (cA:=cA) h tY hq (D6 (vq ht).1) e2 hf;rw[e1];exact⟨by simp only[fO,k1,yE],k2,k3⟩
 case oS x=>
  obtain⟨o,ho⟩:=ab3 hk;have hx:=cJ (c:=c) (cA:=cA) h tY ho;have dm:=hx.ok;simp only[fO,hx.ev];cases e:bp c s.env x<;>rw[e] at hs dm<;>try (simp at hs; done)
  ·simp at hs; subst hs; exact⟨rfl,trivial,trivial⟩
  ·simp at hs; subst hs; exact⟨rfl,dm,trivial⟩
  ·rename_i f a b;cases f<;>simp at hs
   subst hs;exact⟨rfl,dm,trivial⟩
 case bin op' x y=>
  obtain⟨⟨o1,h1⟩,o2,h2⟩:=ah2 hk;have hx:=cJ (c:=c) (cA:=cA) h tY h1;have hy:=cJ (c:=c) (cA:=cA) h tY h2;rcases abc hs with⟨⟨k1,n1,e1⟩,⟨k2,n2,e2⟩,hv⟩|⟨⟨a,e1⟩,⟨b,e2⟩,u,rfl⟩
  ·obtain⟨q1,q2,q3⟩:=Rn (N:=N) hv (az s) s.H.length;rw[e1,e2] at hs;simp only[fO,hx.int e1,hy.int e2,hs,q1];exact⟨trivial,q2,q3⟩
  ·rw[e1,e2] at hs;have f1:=hx.ev;have f2:=hy.ev;rw[e1] at f1;rw[e2] at f2;simp only[gL,cS] at f1 f2;simp only[fO,f1,f2,hs];exact⟨rfl,trivial,trivial⟩
 case eq ng et x y=>
  obtain⟨⟨o1,h1⟩,o2,h2⟩:=alp hk;have hx:=cJ (c:=c) (cA:=cA) h tY h1;have hy:=cJ (c:=c) (cA:=cA) h tY h2;split at hs
  case h_2=>cases hs
  rename_i e he;simp at hs;subst hs;refine⟨?_,trivial,trivial⟩
  have:eqA et (Am.ev cA (Dg N s.env) (ny x)) (Am.ev cA (Dg N s.env) (ny y))=some e:=by
   rw[hx.ev,hy.ev];have hxk:=hx.ok;unfold eqB at he;split at he
   ·rename_i a b e1 e2; rw[e1,e2]; exact he
   ·rename_i l xs ys e1 e2;have n1:=hx.na _ e1;have n2:=hy.na _ e2;rw[e1,e2];simp only[gL,cS,eqA];rw[<-mQ N n1,<-mQ N n2];exact WU N he
   ·rename_i z k e2;rw[e2];simp only[gL];cases e1:bp c s.env x<;>rw[e1] at he hxk<;>try (simp[iB] at he; done)
    ·simpa[iB,eqA,isNil,gL,cS] using he
    ·rename_i k' xs;cases xs with
     |nil=>simp[iB] at he
     |cons u r=>simpa[iB,eqA,isNil,gL,cS] using he
    ·simpa[iB,eqA,isNil,gL,cS] using he
    ·rename_i k' p off len;simp only[iB] at he;split at he
     ·cases he
     ·rename_i hlen;simp at he;subst he;simp only[gL];rcases vj h hxk with⟨m,_,e3⟩|⟨_,_,h0,_⟩
      ·rw[e3]; rfl
      ·exact absurd h0 hlen
   ·rename_i z e2;rw[e2];simp only[gL];cases e1:bp c s.env x<;>rw[e1] at he hxk<;>try (simp[iB] at he; done)
    ·simpa[iB,eqA,isNil,gL,cS] using he
    ·rename_i k' xs;cases xs with
     |nil=>simp[iB] at he
     |cons u r=>simpa[iB,eqA,isNil,gL,cS] using he
    ·simpa[iB,eqA,isNil,gL,cS] using he
    ·rename_i k' p off len;simp only[iB] at he;split at he
     ·cases he
     ·rename_i hlen;simp at he;subst he;simp only[gL];rcases vj h hxk with⟨m,_,e3⟩|⟨_,_,h0,_⟩
      ·rw[e3]; rfl
      ·exact absurd h0 hlen
   ·rename_i z e2;rw[e2];cases e1:bp c s.env x<;>rw[e1] at he<;>try (simp[iB] at he; done)
    all_goals simpa[iB,eqA,isNil,gL,cS] using he
   ·rename_i z e2;rw[e2];cases e1:bp c s.env x<;>rw[e1] at he<;>try (simp[iB] at he; done)
    all_goals simpa[iB,eqA,isNil,gL,cS] using he
   ·cases he
  simp only[fO,this,yE,cS]
 case un uo x=>
  obtain⟨o,ho⟩:=alj hk;have hx:=cJ (c:=c) (cA:=cA) h tY ho;simp only[fO,hx.ev];cases e:bp c s.env x<;>rw[e] at hs<;>try (cases uo<;>simp[Vr] at hs; done)
  ·have:(∃k n,v=.int k n)\/∃ b,v=.bool b:=by
    cases uo<;>simp[Vr] at hs
    ·exact .inl ⟨_,_,hs.symm⟩
    ·exact .inl ⟨_,_,hs.symm⟩
   obtain⟨q1,q2,q3⟩:=Rn (N:=N) this (az s) s.H.length;simp only[gL,cS,hs,q1];exact⟨trivial,q2,q3⟩
  ·have:(∃k n,v=.int k n)\/∃ b,v=.bool b:=by
    cases uo<;>simp[Vr] at hs
    exact .inr ⟨_,hs.symm⟩
   obtain⟨q1,q2,q3⟩:=Rn (N:=N) this (az s) s.H.length;simp only[gL,cS,hs,q1];exact⟨trivial,q2,q3⟩
 case Q5 k x=>
  obtain⟨o,ho⟩:=ahZ hk;have hx:=cJ (c:=c) (cA:=cA) h tY ho;split at hs
  case h_2=>cases hs
  rename_i k' n e;simp at hs;subst hs;simp only[fO,hx.int e];exact⟨rfl,trivial,trivial⟩
 case U0 fn a b=>
  obtain⟨⟨o1,h1⟩,o2,h2⟩:=ahP hk;obtain⟨a1,a2⟩:=vJ (cA:=cA) h tY h1;obtain⟨b1,b2⟩:=vJ (cA:=cA) h tY h2;split at hs
  ·cases hs
  rename_i ho;simp at hs ho;subst hs
  have sp:∀{xs ys:List AV},bT (xs++ys)=false->bT xs=false/\bT ys=false:=by
   intro xs
   induction xs with
   |nil=>intro ys h; exact⟨rfl,h⟩
   |cons z r ih=>
     intro ys h;cases z<;>simp[bT] at h ⊢<;>exact ih h
  obtain⟨hy,ho⟩:=ho;obtain⟨p1,p2⟩:=sp ho;refine⟨?_,⟨a2,b2,fun Lk=>by rw[hy] at Lk; cases Lk⟩,trivial⟩;simp only[fO,a1,b1,yE,cS,mQ N p1,mQ N p2,hy,Bool.false_eq_true,if_false]
 case Fc k x lo hi=>
  obtain⟨⟨o,ho⟩,h1,h2⟩:=ahN hk;have hx:=cJ (c:=c) (cA:=cA) h tY ho;have dm:=hx.ok;split at hs
  case h_2=>cases hs
  rename_i n hn;split at hs
  case h_2=>cases hs
  rename_i hh hhh;split at hs
  case h_2=>cases hs
  rename_i l hl;have g1:=aas h hx hn;have g2:=Xj h tY h2 hhh;have g3:=Xj h tY h1 hl
  have bb:∀{d m n:Nat} {x:Option E},Da c s.env d m x=some n->d<=m->n<=m:=by
   intro d m n x hb hd;cases x with
   |none=>simp[Da] at hb; omega
   |some x=>
     simp only[Da] at hb;unfold bnd at hb;split at hb
     ·split at hb
      ·simp at hb; omega
      ·cases hb
     ·cases hb
  have l1:=bb hhh (aO _);have l2:=bb hl (Nat.zero_le _);simp only[fO,g1,g2,g3];rw[hx.ev];cases e:bp c s.env x<;>rw[e] at hs dm hn<;>try (simp at hs; done)
  ·rename_i k' xs;simp only at hs;split at hs
   case isFalse=>cases hs
   rename_i wh;simp at hs;subst hs;simp only[gL,cS];rw[if_pos wh];exact⟨rfl,trivial,trivial⟩
  ·rename_i k' b off len;simp only at hs;split at hs
   case isFalse=>cases hs
   rename_i wh;simp at hs;subst hs;simp only[gL,cS];rw[if_pos wh];exact⟨rfl,dm,trivial⟩
  ·rename_i k' xs;have:=hx.eo k' xs e;subst this;simp only at hs;split at hs
   case isFalse=>cases hs
   simp at hs;subst hs;exact⟨rfl,trivial,rfl⟩
  ·rename_i k' p off len;simp only at hs;split at hs
   case isFalse=>cases hs
   rename_i wh;subst wh;simp at hs;subst hs;simp only[wK,af] at hn;subst hn
   have hok2:cP (az s) s.H.length (.dP k' p (off+l) (hh-l)):=by
    simp only[cP] at dm ⊢;obtain⟨xs,e1,e2⟩:=dm;exact⟨xs,e1,by omega⟩
   refine⟨?_,hok2,trivial⟩;simp only[gL];rcases vj h dm with⟨m,hm,e3⟩|⟨hm,e0,e1,e3⟩
   ·rw[e3];simp only[if_true,yE,cS,hm,cK]
   ·rw[e3];simp only[yE,cS,hm]
 case yf off x=>
  obtain⟨o,ho⟩:=ahX hk;have hx:=cJ (c:=c) (cA:=cA) h tY ho;have dm:=hx.ok;simp only[fO,hx.ev];cases e:bp c s.env x<;>rw[e] at hs dm<;>try (simp at hs; done)
  ·simp at hs; subst hs; exact⟨rfl,trivial,trivial⟩
  ·simp at hs; subst hs; exact⟨rfl,dm,trivial⟩
  ·rename_i k p i o';simp at hs;subst hs;have hok2:cP (az s) s.H.length (.fv k p i (o'+off)):=dm;refine⟨?_,hok2,trivial⟩;obtain⟨m,hm,e2⟩:=Ku h dm;simp only[gL,e2,yE,cS,hm,Nat.add_assoc]
 case Na n x hi=>
  cases hi with
  |some y=>simp at hs
  |none=>
  obtain⟨⟨o,ho⟩,_⟩:=aa6 hk;have hx:=cJ (c:=c) (cA:=cA) h tY ho;have dm:=hx.ok;simp only[fO,hx.ev,dnO,EW];simp only at hs;cases e:bp c s.env x<;>rw[e] at hs dm<;>try (simp at hs; done)
  rename_i cs;simp only at hs;split at hs
  case isFalse=>cases hs
  rename_i hc;simp at hs;subst hs;simp only[gL,cS];rw[if_pos ⟨hc.1,trivial,hc.2⟩];exact⟨rfl,trivial,trivial⟩
 case fld off ag x=>
  obtain⟨o,ho⟩:=ahW hk;have hx:=cJ (c:=c) (cA:=cA) h tY ho;have dm:=hx.ok;simp only[fO,hx.ev];cases e:bp c s.env x<;>rw[e] at hs dm<;>try (simp at hs; done)
  rename_i cs;simp only at hs;obtain⟨r1,r2,r3,_⟩:=VM N hs (Ea (n:=off) dm);simp only[gL,cS,I5,r1];exact⟨trivial,r2,r3⟩
 case qc k x i=>
  obtain⟨⟨o1,h1⟩,o2,h2⟩:=ahV hk;have hx:=cJ (c:=c) (cA:=cA) h tY h1;have hi:=cJ (c:=c) (cA:=cA) h tY h2;have dm:=hx.ok;simp only[fO,hx.ev];cases e:bp c s.env x<;>rw[e] at hs dm<;>try (simp at hs; done)
  ·rename_i k' xs;simp only at hs;split at hs
   case h_2=>cases hs
   rename_i j hj;obtain⟨ki,ni,e2,U7,_⟩:=FP hj;split at hs
   case isFalse=>cases hs
   rename_i wh;split at hs
   case h_2=>cases hs
   rename_i u hu;simp at hs;subst hs;simp only[gL,cS,hi.int e2,U7,if_pos wh,hu];exact⟨rfl,trivial,trivial⟩
  ·rename_i k' b off len;simp only at hs;split at hs
   case h_2=>cases hs
   rename_i j hj;obtain⟨ki,ni,e2,U7,_⟩:=FP hj;split at hs
   case isFalse=>cases hs
   rename_i wh;simp at hs;subst hs;simp only[gL,cS,hi.int e2,U7,if_pos wh];exact⟨rfl,dm,trivial⟩
  ·rename_i k' p off len;simp only at hs;split at hs
   case h_2=>cases hs
   rename_i j hj;obtain⟨ki,ni,e2,U7,bF⟩:=FP hj;split at hs
   case isFalse=>cases hs
   rename_i wh;subst wh;simp at hs;subst hs;simp only[gL];rcases vj h dm with⟨m,hm,e3⟩|⟨_,_,h0,_⟩
   ·rw[e3];simp only[hi.int e2,U7,if_true,yE,cS,hm,cK,Nat.add_zero];refine⟨trivial,?_,trivial⟩;simp only[cP] at dm ⊢;obtain⟨xs,q1,q2⟩:=dm;exact⟨xs,q1,by omega⟩
   ·omega
 case Ic n k x i=>
  obtain⟨⟨o1,h1⟩,o2,h2⟩:=ahU hk;have hx:=cJ (c:=c) (cA:=cA) h tY h1;have hi:=cJ (c:=c) (cA:=cA) h tY h2;have dm:=hx.ok;split at hs
  case h_2=>cases hs
  rename_i j hj;obtain⟨ki,ni,e2,U7,_⟩:=FP hj;simp only[fO,hi.int e2,U7,hx.ev];cases e:bp c s.env x<;>rw[e] at hs dm<;>try (simp at hs; done)
  ·simp at hs; subst hs; exact⟨rfl,trivial,trivial⟩
  ·simp at hs; subst hs; exact⟨rfl,dm,trivial⟩
  ·rename_i k' p l off;simp at hs;subst hs;have hok2:cP (az s) s.H.length (.fv k' p l (off+j*k)):=dm;refine⟨?_,hok2,trivial⟩;obtain⟨m,hm,e3⟩:=Ku h dm;simp only[gL,e3,yE,cS,hm,Nat.add_assoc]
 case ix n k ag x i=>
  obtain⟨⟨o1,h1⟩,o2,h2⟩:=alo hk;have hx:=cJ (c:=c) (cA:=cA) h tY h1;have hi:=cJ (c:=c) (cA:=cA) h tY h2;have dm:=hx.ok;split at hs
  case h_2=>cases hs
  rename_i j hj;obtain⟨ki,ni,e2,U7,_⟩:=FP hj;simp only[fO,hi.int e2,U7,hx.ev];cases e:bp c s.env x<;>rw[e] at hs dm<;>try (simp at hs; done)
  rename_i cs;simp only at hs;obtain⟨r1,r2,r3,_⟩:=VM N hs (Ea (n:=j*k) dm);simp only[gL,cS,I5,r1];exact⟨trivial,r2,r3⟩
 case ext i x=>
  obtain⟨o,ho⟩:=ahY hk;have hx:=cJ (c:=c) (cA:=cA) h tY ho;have dm:=hx.ok;simp only[fO,hx.ev];cases e:bp c s.env x<;>rw[e] at hs dm<;>try (simp at hs; done)
  rename_i vs;simp only at hs;split at hs
  case h_2=>cases hs
  rename_i u hu;split at hs
  ·cases hs
  rename_i iv;simp at hs iv;subst hs;simp only[gL,cS,oB,hu,cD];refine⟨by rw[nq N iv],gE.1 dm i u hu,?_⟩;cases u<;>simp only[EO]<;>try (simp[bV] at iv; done)
  rename_i ds;intro j k xs hj;exfalso;simp only[bV] at iv;clear hu
  induction ds generalizing j with
  |nil=>simp at hj
  |cons y r ih=>
    cases j with
    |zero=>simp at hj; subst hj; simp[bT] at iv
    |succ j=>exact ih (by cases y<;>simp[bT] at iv<;>exact iv) j (by simpa using hj)
 case ixs tab i=>
  obtain⟨o,ho⟩:=ahT hk;have hi:=cJ (c:=c) (cA:=cA) h tY ho;split at hs
  case h_2=>cases hs
  rename_i j hj;obtain⟨ki,ni,e2,U7,_⟩:=FP hj;split at hs
  case h_2=>cases hs
  rename_i u hu;simp at hs;subst hs;simp only[fO,hi.int e2,U7,hu];exact⟨rfl,trivial,trivial⟩
 case len x=>
  obtain⟨o,ho⟩:=ahS hk;have hx:=cJ (c:=c) (cA:=cA) h tY ho;split at hs
  case h_2=>cases hs
  rename_i n hn;simp at hs;subst hs;simp only[fO,aas h hx hn];exact⟨rfl,trivial,trivial⟩
 case min xs=>
  obtain⟨o,ho⟩:=ahQ hk;obtain⟨a1,a2⟩:=vJ (cA:=cA) h tY ho;obtain⟨m1,m2⟩:=aan N hs;obtain⟨q1,q2,q3⟩:=Rn (N:=N) (.inl m2) (az s) s.H.length;simp only[fO,a1,m1,q1];exact⟨trivial,q2,q3⟩
 case max xs=>
  obtain⟨o,ho⟩:=ahR hk;obtain⟨a1,a2⟩:=vJ (cA:=cA) h tY ho;obtain⟨m1,m2⟩:=aan N hs;obtain⟨q1,q2,q3⟩:=Rn (N:=N) (.inl m2) (az s) s.H.length;simp only[fO,a1,m1,q1];exact⟨trivial,q2,q3⟩
end
end Go.Bm

/- A value in hand; operations that read and make. -/
namespace Go.Bm
open Go.Am
section
variable {P:Program} {X:Nat->Prop} {φ:dj} {w:World} {N N':Names} {s:St} {Ha:Heap} {t t':Nat->Value} {B:Nat->Nat} {base:Nat} {v:AV} {v':Value}
theorem I4 (eX:N'.β=N.β) {x:AV} (h:∀p∈aS x,N'.ν p=N.ν p):cS N' x=cS N x:=by
 have e:=ach (N:=N) (N':=N') (m:=id) (g:=fun y=>y) eX (fun _ _ _ _=>⟨rfl,rfl⟩) x h;have:cT (fun y=>y) x=x:=uw (m:=id) (fun _ _ _ _=>⟨rfl,rfl⟩) x (fun _ _=>rfl)
 rwa [this] at e
theorem Nl (eX:N'.β=N.β) {r:Rt} {x:AV} (hr:∀k xs,x=.own k xs->N'.ν r=N.ν r) (h:∀p∈aS x,N'.ν p=N.ν p):jx N' r x=jx N r x:=by
 have e:=B8 (N:=N) (N':=N') (m:=id) (g:=fun y=>y) eX (fun _ _ _ _=>⟨rfl,rfl⟩) (r:=r) (r':=r) hr h;have:cT (fun y=>y) x=x:=uw (m:=id) (fun _ _ _ _=>⟨rfl,rfl⟩) x (fun _ _=>rfl)
 rwa [this] at e
theorem abr (eX:N'.β=N.β) {i:Nat} {x:AV} (h1:N'.ν (.s i)=N.ν (.s i)) (h2:∀j,N'.ν (.sc i j)=N.ν (.sc i j)) (h:∀p∈aS x,N'.ν p=N.ν p):lT N' i x=lT N i x:=by
 have e:=Pz (N:=N) (N':=N') (m:=id) (g:=fun y=>y) eX (fun _ _ _ _=>⟨rfl,rfl⟩) (i:=i) (i':=i) h1 h2 h;have:cT (fun y=>y) x=x:=uw (m:=id) (fun _ _ _ _=>⟨rfl,rfl⟩) x (fun _ _=>rfl)
 rwa [this] at e
theorem eW.dP (h:eW X φ w N s Ha t) {r:Rt} {x:AV} (hx:at_ s r=some x):∀p∈aS x,(az s p).isSome:=Ft x (h.D8 hx)
theorem alA {i:Nat} (hi:get s.env i=.any) {q:Rt} (hq:bL i q=false):at_ ⟨put s.env i v,s.H⟩ q=at_ s q:=by
 cases q with
 |s j=>simp only[bL,decide_eq_false_iff_not] at hq; simp[at_,bN,hq]
 |sc j l=>simp only[bL,decide_eq_false_iff_not] at hq; simp[at_,bN,hq]
 |c b j=>rfl
theorem pO {i:Nat} (hi:get s.env i=.any) {q:Rt} (hq:bL i q=false):az ⟨put s.env i v,s.H⟩ q=az s q:=iN (alA hi hq)
theorem abi {i:Nat} (hi:get s.env i=.any) {q:Rt} (hq:bL i q=true):az s q=none:=by
 have ho:bV (get s.env i)=false:=by rw[hi]; rfl
 obtain⟨h1,h2⟩:=dR ho;cases q with
 |s j=>simp only[bL,decide_eq_true_eq] at hq; subst hq; exact h1
 |sc j l=>simp only[bL,decide_eq_true_eq] at hq; subst hq; exact h2 l
 |c b j=>simp[bL] at hq
mutual
theorem jS {o o':Rt->Option (Nat × List AV)} {nb Od:Nat} (ho:∀p,(o p).isSome->o' p=o p) (hn:nb<=Od):∀x,cP o nb x->cP o' Od x
 |.dP k p off len,h=>by simp only[cP] at h ⊢; obtain⟨xs,e,h2⟩:=h; exact⟨xs,by rw[ho p (by rw[e]; rfl)]; exact e,h2⟩
 |.fv k p i off,h=>by simp only[cP] at h ⊢; obtain⟨xs,e,h2⟩:=h; exact⟨xs,by rw[ho p (by rw[e]; rfl)]; exact e,h2⟩
 |.ptr b off,h=>by simp only[cP] at h ⊢; omega
 |.agg cs,h=>by simp only[cP] at h ⊢; exact zG ho hn cs h
 |.dt cs,h=>by simp only[cP] at h ⊢; exact zG ho hn cs h
 |.func f a b,h=>by simp only[cP] at h ⊢; exact⟨zG ho hn a h.1,zG ho hn b h.2.1,h.2.2⟩
 |.any,_=>trivial
 |.undef,_=>trivial
 |.fN,_=>trivial
 |.fS,_=>trivial
 |.du,_=>trivial
 |.int _ _,_=>trivial
 |.bool _,_=>trivial
 |.str _,_=>trivial
 |.list _ _,_=>trivial
 |.dy _,_=>trivial
 |.own _ _,_=>trivial
 |.sl _ b _ _,h=>by simp only[cP] at h ⊢; omega
theorem zG {o o':Rt->Option (Nat × List AV)} {nb Od:Nat} (ho:∀p,(o p).isSome->o' p=o p) (hn:nb<=Od):∀cs,mg o nb cs->mg o' Od cs
 |[],_=>trivial
 |x::r,h=>⟨jS ho hn x h.1,zG ho hn r h.2⟩
end
theorem eW.putG (h:eW X φ w N s Ha t) {i:Nat} (hi:get s.env i=.any) (eX:N'.β=N.β) (hN:∀p,bL i p=false->N'.ν p=N.ν p) (hv:cP (az s) s.H.length v) (rv:bO (Rd X φ w) φ (lT N' i v) v')
  (eU:∀p k xs,bL i p=true->az ⟨put s.env i v,s.H⟩ p=some (k,xs)->qQ Ha (N'.ν p) k xs/\∀ n,N'.ν p=some n->(∀q,(az s q).isSome->N.ν q≠some n)/\(∀b,(aJ s.H b).isSome->N.β b≠n)/\∀ q,bL i q=true->(az ⟨put s.env i v,s.H⟩ q).isSome->N'.ν q=some n->q=p) :
  eW X φ w N' ⟨put s.env i v,s.H⟩ Ha (fun j=>if j=i then v' else t j):=by
 have MQ:∀{p},(az s p).isSome->bL i p=false:=by
  intro p hp;cases e:bL i p with
  |false=>rfl
  |true=>rw[abi hi e] at hp; cases hp
 have mono:∀p,(az s p).isSome->az ⟨put s.env i v,s.H⟩ p=az s p:=fun p hp=>pO hi (MQ hp);refine⟨fun j=>?_,fun j=>?_,h.heap,fun p k xs e=>?_,fun b cs e=>?_,fun p q n e1 e2 e3 e4=>?_,fun b p e1 e2 e3=>?_,fun b d e1 e2 e3=>?_⟩
 ·simp only[bN];by_cases hj:j=i
  ·subst hj; simp only[if_true]; exact rv
  ·simp only[if_neg hj];rw[abr eX (hN _ (by simp[bL,hj])) (fun l=>hN _ (by simp[bL,hj])) (fun p hp=>hN p (MQ (h.dP (r:=.s j) rfl p hp)))];exact h.env j
 ·simp only[bN];by_cases hj:j=i
  ·rw[if_pos hj]; exact jS mono (aO _) v hv
  ·rw[if_neg hj]; exact jS mono (aO _) _ (h.Iz j)
 ·cases hp:bL i p with
  |true=>exact (eU p k xs hp e).1
  |false=>rw[pO hi hp] at e; rw[hN p hp]; exact h.own p k xs e
 ·obtain⟨as,g1,g2,g3⟩:=h.box b cs e;refine⟨as,by rw[eX]; exact g1,g2,fun j c hc=>?_⟩;obtain⟨k1,a,k2,k3⟩:=g3 j c hc;refine⟨jS mono (aO _) c k1,a,k2,?_⟩;rw[Nl eX (fun _ _ _=>hN _ rfl) (fun p hp=>hN p (MQ (h.dP (r:=.c b j) (by rw[Af (s:=s) e]; exact hc) p hp)))];exact k3
 ·cases hp:bL i p with
  |true=>
    obtain⟨⟨k,xs⟩,e⟩:=aU.1 e1;obtain⟨_,h2⟩:=eU p k xs hp e;obtain⟨f1,f2,f3⟩:=h2 n e3;cases hq:bL i q with
    |true=>exact (f3 q hq e2 e4).symm
    |false=>rw[pO hi hq] at e2; rw[hN q hq] at e4; exact absurd e4 (f1 q e2)
  |false=>
    cases hq:bL i q with
    |true=>
      obtain⟨⟨k,xs⟩,e⟩:=aU.1 e2;obtain⟨_,h2⟩:=eU q k xs hq e;obtain⟨f1,f2,f3⟩:=h2 n e4;rw[pO hi hp] at e1;rw[hN p hp] at e3;exact absurd e3 (f1 p e1)
    |false=>
      rw[pO hi hp] at e1;rw[pO hi hq] at e2;rw[hN p hp] at e3;rw[hN q hq] at e4;exact h.inj p q n e1 e2 e3 e4
 ·rw[eX] at e3;cases hp:bL i p with
  |true=>
    obtain⟨⟨k,xs⟩,e⟩:=aU.1 e2;obtain⟨_,h2⟩:=eU p k xs hp e;exact (h2 _ e3).2.1 b e1 rfl
  |false=>rw[pO hi hp] at e2; rw[hN p hp] at e3; exact h.bx b p e1 e2 e3
 ·rw[eX] at e3; exact h.bi b d e1 e2 e3
theorem dU.quiet (h:eW X φ w N s Ha t) (hb:(∀b,b<base->N.β b=B b)/\base<=s.H.length) (hv:cP (az s) s.H.length v) (he:EO v) (r:bO (Rd X φ w) φ (yE N v) v'):dU X φ w B base s v t v':=by
 refine⟨⟨N,Ha,h,hb⟩,hv,fun i hi=>?_⟩
 have MQ:∀{p},(az s p).isSome->bL i p=false:=by
  intro p hp;cases e:bL i p with
  |false=>rfl
  |true=>rw[abi hi e] at hp; cases hp
 obtain⟨N',eX,hN1,hN2⟩:∃N':Names,N'.β=N.β/\(∀p,bL i p=false->N'.ν p=N.ν p)/\∀ p,bL i p=true->N'.ν p=none:=⟨⟨N.β,fun p=>if bL i p then none else N.ν p⟩,rfl,fun p hp=>by simp[hp],fun p hp=>by simp[hp]⟩;have hvb:∀p∈aS v,N'.ν p=N.ν p:=fun p hp=>hN1 p (MQ (Ft v hv p hp))
 have e1:lT N' i v=yE N v:=by
  cases v<;>simp only[lT,yE,jx]<;>try exact I4 eX hvb
  ·rename_i cs;congr 1;apply dN;intro j;rw[gb,qt];simp only[fX];cases hc:cs[j]? with
   |none=>rfl
   |some c=>
     simp only[cD];congr 1;have hcb:∀p∈aS c,N'.ν p=N.ν p:=fun p hp=>hvb p (by simp only[aS]; exact mX hc hp);cases c<;>simp only[jx,gL]<;>try exact I4 eX hcb
     simp only[rU,hN2 (.sc i j) (by simp[bL])]
  ·simp only[rU,hN2 (.s i) (by simp[bL])]
 refine⟨N',Ha,h.putG hi eX hN1 hv (by rw[e1]; exact r) (fun p k xs hp e=>?_),fun b bF=>by rw[eX]; exact hb.1 b bF,hb.2⟩;rw[hN2 p hp];refine⟨?_,fun n e=>by cases e⟩;have e':=cC.1 e;cases p with
 |s j=>
   simp only[bL,decide_eq_true_eq] at hp;subst hp;simp only[at_,bN,if_true,af] at e';rw[e'] at he;exact he
 |sc j l=>
   simp only[bL,decide_eq_true_eq] at hp;subst hp;simp only[at_,bN,if_true] at e';cases v<;>simp only[reduceCtorEq] at e'
   exact he l k xs e'
 |c b j=>simp[bL] at hp
theorem dU.fresh (h:eW X φ w N s Ha t) (hb:(∀b,b<base->N.β b=B b)/\base<=s.H.length) {k n:Nat} {xs:List AV} (ho:qQ Ha (some n) k xs) (hf:∀q,(az s q).isSome->N.ν q≠some n) (hx:∀b,(aJ s.H b).isSome->N.β b≠n) (r:bO (Rd X φ w) φ (.sl k n 0 xs.length) v') :
  dU X φ w B base s (.own k xs) t v':=by
 refine⟨⟨N,Ha,h,hb⟩,trivial,fun i hi=>?_⟩
 obtain⟨N',eX,hN1,hN2⟩:∃N':Names,N'.β=N.β/\(∀p,bL i p=false->N'.ν p=N.ν p)/\N'.ν (.s i)=some n:=⟨⟨N.β,fun p=>if p=.s i then some n else N.ν p⟩,rfl,fun p hp=>by
  have:p≠.s i:=by rintro rfl; simp[bL] at hp
  simp[this],by simp⟩
 have only:∀p,bL i p=true->(az ⟨Am.put s.env i (.own k xs),s.H⟩ p).isSome->p=.s i:=by
  intro p hp e;cases p with
  |s j=>simp only[bL,decide_eq_true_eq] at hp; rw[hp]
  |sc j l=>
    simp only[bL,decide_eq_true_eq] at hp;subst hp;unfold az at e;simp[at_,bN] at e
  |c b j=>simp[bL] at hp
 refine⟨N',Ha,h.putG hi eX hN1 trivial (by simp only[lT,jx,rU,hN2]; exact r) (fun p k' ys hp e=>?_),fun b bF=>by rw[eX]; exact hb.1 b bF,hb.2⟩;have yy:=only p hp (by rw[e]; rfl);subst yy;have e':=cC.1 e;simp only[at_,bN,if_true,af,AV.own.injEq] at e';obtain⟨rfl,rfl⟩:=e';rw[hN2];refine⟨ho,fun m hm=>?_⟩;cases hm;exact⟨hf,hx,fun q hq e _=>only q hq e⟩
theorem eW.nZ {φ':dj} {w':World} {Ha':Heap} (h:eW X φ w N s Ha t) (a:fg φ w φ' w') (hh:cj X φ' w' Ha') (ho:∀p k xs,az s p=some (k,xs)->qQ Ha' (N.ν p) k xs) (hb:∀b,(aJ s.H b).isSome->aJ Ha' (N.β b)=aJ Ha (N.β b)):eW X φ' w' N s Ha' t:=
 ⟨fun i=>a.rep (h.env i),h.Iz,hh,ho,fun b cs e=>by
  obtain⟨as,g1,g2,g3⟩:=h.box b cs e;exact⟨as,by rw[hb b (by rw[e]; rfl)]; exact g1,g2,g3⟩,h.inj,h.bx,h.bi⟩
theorem qQ.same {H H':Heap} {o:Option Nat} {k:Nat} {xs:List AV} (h:qQ H o k xs) (hb:∀n,o=some n->aJ H' n=aJ H n):qQ H' o k xs:=by
 cases o with
 |none=>exact h
 |some n=>
   obtain⟨cs,h1,h2⟩:=h;exact⟨cs,by rw[hb n rfl]; exact h1,h2⟩
theorem qQ.lt {H:Heap} {n k:Nat} {xs:List AV} (h:qQ H (some n) k xs):n<H.length:=by
 obtain⟨cs,h1,_⟩:=h;exact dL h1
theorem eW.gJ (h:eW X φ w N s Ha t) {p:Rt} (hp:(az s p).isSome) {n:Nat} (hn:N.ν p=some n):n<Ha.length:=by
 obtain⟨⟨k,xs⟩,e⟩:=aU.1 hp;have:=h.own p k xs e;rw[hn] at this;exact this.lt
theorem eW.tP (h:eW X φ w N s Ha t) {b:Nat} (hb:(aJ s.H b).isSome):N.β b<Ha.length:=by
 obtain⟨cs,e⟩:=aU.1 hb;obtain⟨as,g1,_⟩:=h.box b cs e;exact dL g1
theorem eW.push {φ':dj} {w':World} {cs:List AV} (h:eW X φ w N s Ha t) (a:fg φ w φ' w') (hh:cj X φ' w' (Ha++[some cs])):eW X φ' w' N s (Ha++[some cs]) t:=by
 refine h.nZ a hh (fun p k xs e=>?_) (fun b hb=>?_)
 ·refine (h.own p k xs e).same fun n hn=>?_;rw[fE,if_neg];have:=h.gJ (by rw[e]; rfl) hn;omega
 ·rw[fE,if_neg];have:=h.tP hb;omega
theorem Ma (H:Heap) (cs:List AV):aJ (H++[some cs]) H.length=some cs:=by rw[fE,if_pos rfl]
end
end Go.Bm

/- Operations that make blocks and boxes. -/
namespace Go.Bm
open Go.Am
mutual
theorem Az {N N':Names} {o:Rt->Option (Nat × List AV)} {nb:Nat} (eX:∀b,b<nb->N'.β b=N.β b) (lF:∀p,(o p).isSome->N'.ν p=N.ν p):∀x,cP o nb x->cS N' x=cS N x
 |.dP k p a l,h=>by simp only[cP] at h; obtain⟨xs,e,_⟩:=h; simp only[cS,lF p (by rw[e]; rfl)]
 |.fv k p a l,h=>by simp only[cP] at h; obtain⟨xs,e,_⟩:=h; simp only[cS,lF p (by rw[e]; rfl)]
 |.ptr b off,h=>by simp only[cP] at h; simp only[cS,eX b h]
 |.agg cs,h=>by simp only[cP] at h; simp only[cS,td eX lF cs h]
 |.dt cs,h=>by simp only[cP] at h; simp only[cS,td eX lF cs h]
 |.func f a b,h=>by simp only[cP] at h; simp only[cS,td eX lF a h.1,td eX lF b h.2.1]
 |.any,_=>rfl
 |.undef,_=>rfl
 |.fN,_=>rfl
 |.fS,_=>rfl
 |.du,_=>rfl
 |.int _ _,_=>rfl
 |.bool _,_=>rfl
 |.str _,_=>rfl
 |.list _ _,_=>rfl
 |.dy _,_=>rfl
 |.own _ _,_=>rfl
 |.sl _ b _ _,h=>by simp only[cP] at h; simp only[cS,eX b h]
theorem td {N N':Names} {o:Rt->Option (Nat × List AV)} {nb:Nat} (eX:∀b,b<nb->N'.β b=N.β b) (lF:∀p,(o p).isSome->N'.ν p=N.ν p):∀cs,mg o nb cs->mR N' cs=mR N cs
 |[],_=>rfl
 |x::r,h=>by simp only[mR,Az eX lF x h.1,td eX lF r h.2]
end
theorem wq {N N':Names} {o:Rt->Option (Nat × List AV)} {nb:Nat} (eX:∀b,b<nb->N'.β b=N.β b) (lF:∀p,(o p).isSome->N'.ν p=N.ν p) {r:Rt} {x:AV} (hr:∀k xs,x=.own k xs->N'.ν r=N.ν r) (h:cP o nb x):jx N' r x=jx N r x:=by
 cases x<;>simp only[jx]<;>first|exact Az eX lF _ h|skip
 rename_i k xs;simp only[rU,hr k xs rfl]
theorem B7 {N N':Names} {o:Rt->Option (Nat × List AV)} {nb:Nat} (eX:∀b,b<nb->N'.β b=N.β b) (lF:∀p,(o p).isSome->N'.ν p=N.ν p) {i:Nat} {x:AV} (h1:N'.ν (.s i)=N.ν (.s i)) (h2:∀j,N'.ν (.sc i j)=N.ν (.sc i j)) (h:cP o nb x):lT N' i x=lT N i x:=by
 by_cases ha:∃cs,x=.agg cs
 ·obtain⟨cs,rfl⟩:=ha;simp only[lT];congr 1;apply dN;intro j;rw[gb,gb];simp only[fX];cases hc:cs[j]? with
  |none=>rfl
  |some c=>
    simp only[cD];simp only[cP] at h;rw[wq eX lF (fun _ _ _=>h2 j) (gE.1 h j c hc)]
 ·have hn:kh x:=fun cs e=>ha ⟨cs,e⟩;have e1:lT N' i x=jx N' (.s i) x:=by cases x<;>first|rfl|exact absurd rfl (hn _)
  have e2:lT N i x=jx N (.s i) x:=by cases x<;>first|rfl|exact absurd rfl (hn _)
  rw[e1,e2];exact wq eX lF (fun _ _ _=>h1) h
mutual
theorem l9 (N:Names):∀x,pl x=true->cS N x=x
 |.agg cs,h=>by simp only[pl] at h; simp only[cS,I1 N cs h]
 |.dt cs,h=>by simp only[pl] at h; simp only[cS,I1 N cs h]
 |.func f a b,h=>by simp only[pl,ae] at h; simp only[cS,I1 N a h.2.1,I1 N b h.2.2]
 |.any,_=>rfl
 |.undef,_=>rfl
 |.fN,_=>rfl
 |.fS,_=>rfl
 |.du,_=>rfl
 |.int _ _,_=>rfl
 |.bool _,_=>rfl
 |.str _,_=>rfl
 |.list _ _,_=>rfl
 |.dy _,_=>rfl
 |.own _ _,h=>by simp[pl] at h
 |.dP _ _ _ _,h=>by simp[pl] at h
 |.fv _ _ _ _,h=>by simp[pl] at h
 |.ptr _ _,h=>by simp[pl] at h
 |.sl _ _ _ _,h=>by simp[pl] at h
theorem I1 (N:Names):∀cs,dq cs=true->mR N cs=cs
 |[],_=>rfl
 |x::r,h=>by simp only[dq,ae] at h; simp only[mR,l9 N x h.1,I1 N r h.2]
end
theorem aau (N:Names) {c:AV} (h:fz (eK c)=true) (he:∀k xs,c=.own k xs->xs=[]):Le (eK c) (gL N c):=by
 cases c<;>simp only[eK] at h ⊢<;>first
  | (have := (mh h).1
     simp only[gL];rw[l9 N _ this];exact Le.refl _)
  |skip
 rename_i k xs;have:=he k xs rfl;subst this;exact Le.eK k
section
variable {P:Program} {X:Nat->Prop} {φ φ':dj} {w w':World} {N N':Names} {s s1:St} {Ha:Heap} {t:Nat->Value} {B:Nat->Nat} {base:Nat} {v:AV} {v':Value} {c:eI} {o:Oper} {a:Act}
theorem eW.PZ {zs as:List AV} (h:eW X φ w N s Ha t) (ad:fg φ w φ' w') (hh:cj X φ' w' (Ha++[some as])) (hz:mg (az s) s.H.length zs) (he:EOL zs) (has:as=iI N zs) :
  ∃ N',(∀b,b<s.H.length->N'.β b=N.β b)/\N'.β s.H.length=Ha.length/\eW X φ' w' N' ⟨s.env,s.H++[some zs]⟩ (Ha++[some as]) t:=by
 have h1:=h.push ad hh
 obtain⟨N',eX,hβ2,hN1,hN2⟩:∃N':Names,(∀b,b<s.H.length->N'.β b=N.β b)/\N'.β s.H.length=Ha.length/\(∀p,(∀j,p≠.c s.H.length j)->N'.ν p=N.ν p)/\∀ j,N'.ν (.c s.H.length j)=none:=
  ⟨⟨fun b=>if b=s.H.length then Ha.length else N.β b,fun p=>match p with
   |.c b j=>if b=s.H.length then none else N.ν (.c b j)
   |p=>N.ν p⟩,fun b hb=>by simp; omega,by simp,fun p hp=>by
     cases p with
     |s i=>rfl
     |sc i j=>rfl
     |c b j=>
       have:b≠s.H.length:=fun e=>hp j (by rw[e]);simp[this],fun j=>by simp⟩
 have atq:∀q,(∀j,q≠.c s.H.length j)->at_ ⟨s.env,s.H++[some zs]⟩ q=at_ s q:=by
  intro q hq;cases q with
  |s i=>rfl
  |sc i j=>rfl
  |c b j=>
    have:b≠s.H.length:=fun e=>hq j (by rw[e]);simp only[at_,fE,if_neg this]
 have atn:∀j,at_ ⟨s.env,s.H++[some zs]⟩ (.c s.H.length j)=zs[j]?:=fun j=>by simp only[at_,fE,if_true]
 have MQ:∀{q},(az s q).isSome->∀j,q≠.c s.H.length j:=by
  rintro q hq j rfl;unfold az at hq
  have:aJ s.H s.H.length=none:=by
   cases e:aJ s.H s.H.length with
   |none=>rfl
   |some cs=>have:=dL e; omega
  simp[at_,this] at hq
 have mono:∀p,(az s p).isSome->az ⟨s.env,s.H++[some zs]⟩ p=az s p:=fun p hp=>iN (atq p (MQ hp));have lF:∀p,(az s p).isSome->N'.ν p=N.ν p:=fun p hp=>hN1 p (MQ hp);have hlen:s.H.length<=(s.H++[some zs]).length:=by simp
 have aiV:∀{q k xs},az ⟨s.env,s.H++[some zs]⟩ q=some (k,xs)->(az s q=some (k,xs))\/((∃j,q=.c s.H.length j)/\xs=[]):=by
  intro q k xs e;by_cases hq:∃j,q=.c s.H.length j
  ·obtain⟨j,rfl⟩:=hq;have e':=cC.1 e;rw[atn] at e';exact .inr ⟨⟨j,rfl⟩,he j k xs e'⟩
  ·rw[iN (atq q fun j e=>hq ⟨j,e⟩)] at e;exact .inl e
 have I8:∀{q n},(az ⟨s.env,s.H++[some zs]⟩ q).isSome->N'.ν q=some n->(az s q).isSome/\N.ν q=some n:=by
  intro q n hq hn;obtain⟨⟨k,xs⟩,e⟩:=aU.1 hq;rcases aiV e with e1|⟨⟨j,rfl⟩,_⟩
  ·have:(az s q).isSome:=by rw[e1]; rfl
   exact⟨this,by rw[<-lF q this]; exact hn⟩
  ·rw[hN2] at hn; cases hn
 have bold:∀{b},(aJ (s.H++[some zs]) b).isSome->(b<s.H.length/\(aJ s.H b).isSome)\/b=s.H.length:=by
  intro b hb;rw[fE] at hb;by_cases e:b=s.H.length
  ·exact .inr e
  ·rw[if_neg e] at hb;obtain⟨cs,e2⟩:=aU.1 hb;exact .inl ⟨dL e2,hb⟩
 refine⟨N',eX,hβ2,⟨fun i=>?_,fun i=>jS mono hlen _ (h1.Iz i),hh,fun p k xs e=>?_,fun b cs e=>?_,fun p q n e1 e2 e3 e4=>?_,fun b p e1 e2 e3=>?_,fun b d e1 e2 e3=>?_⟩⟩
 ·rw[B7 eX lF (hN1 _ (fun j e=>by cases e)) (fun l=>hN1 _ (fun j e=>by cases e)) (h1.Iz i)];exact h1.env i
 ·rcases aiV e with e1|⟨⟨j,rfl⟩,rfl⟩
  ·rw[lF p (by rw[e1]; rfl)]; exact h1.own p k xs e1
  ·rw[hN2]; rfl
 ·by_cases hb:b=s.H.length
  ·subst hb;simp only[fE,if_true,af] at e;subst e;refine⟨as,by rw[hβ2]; exact Ma _ _,by rw[has,jy],fun j x hx=>⟨jS mono hlen x (gE.1 hz j x hx),gL N x,by rw[has,qt,hx]; rfl,?_⟩⟩;have hxk:=gE.1 hz j x hx;cases x<;>simp only[jx,gL]<;>try (rw[Az eX lF _ hxk]; exact Le.refl _)
   simp only[rU,hN2];exact Le.refl _
  ·simp only[fE,if_neg hb] at e;obtain⟨as',g1,g2,g3⟩:=h1.box b cs e;refine⟨as',by rw[eX b (dL e)]; exact g1,g2,fun j x hx=>?_⟩;obtain⟨k1,a',k2,k3⟩:=g3 j x hx;refine⟨jS mono hlen x k1,a',k2,?_⟩;rw[wq eX lF (fun _ _ _=>hN1 _ (fun l e=>by cases e; exact hb rfl)) k1];exact k3
 ·obtain⟨p1,p2⟩:=I8 e1 e3;obtain⟨q1,q2⟩:=I8 e2 e4;exact h1.inj p q n p1 q1 p2 q2
 ·obtain⟨p1,p2⟩:=I8 e2 e3;rcases bold e1 with⟨b1,b2⟩|b1
  ·rw[eX b b1] at p2; exact h1.bx b p b2 p1 p2
  ·subst b1;rw[hβ2] at p2;have:=h.gJ p1 p2;omega
 ·rcases bold e1 with⟨b1,b2⟩|b1<;>rcases bold e2 with⟨d1,d2⟩|d1
  ·rw[eX b b1,eX d d1] at e3; exact h1.bi b d b2 d2 e3
  ·subst d1; rw[eX b b1,hβ2] at e3; have:=h.tP b2; omega
  ·subst b1; rw[eX d d1,hβ2] at e3; have:=h.tP d2; omega
  ·rw[b1,d1]
def tm (a:Act):Nat->Value:=fun i=>a.tmps.getD i undef
def nh (P:Program) (X:Nat->Prop) (φ:dj) (w:World) (B:Nat->Nat) (base:Nat) (s1:St) (v:AV) (o:Oper) (a:Act):Prop:=
 ∀ (K:Act->World->Prop) (Q:Exit->Act->World->Prop),(∀v' w' φ',dU X φ' w' B base s1 v (tm a) v'->fg φ w φ' w'->K (a.put o.dst v') w')->o.wp P a w K Q
theorem nh.ghost (ad:fg φ w φ' w) (h:nh P X φ' w B base s1 v o a):nh P X φ w B base s1 v o a:=fun K Q hK=>h K Q fun v' w' qY hp k=>hK v' w' qY hp (ad.trans k)
theorem nh.of {va:AV} {Ha':Heap} (h:Ok P X φ w o a va Ha') (hp:∀v' w' φ',bO (Rd X φ' w') φ' va v'->cj X φ' w' Ha'->fg φ w φ' w'->dU X φ' w' B base s1 v (tm a) v'):nh P X φ w B base s1 v o a:=
 fun K Q hK=>h K Q fun v' w' φ' r hh ad=>hK v' w' φ' (hp v' w' φ' r hh ad) ad
def hU (c:eI):Am.eI:=⟨fun _=>none,c.gl,fun _=>none⟩
theorem alu (hm:P.follows .mixedOrders=true) (c:eI):Am.UU P (hU c):=⟨hm,fun f m q h=>by cases h⟩
def noC:Nat->List AV->Heap->Option (AV × Heap):=fun _ _ _=>none
theorem afy (c:eI):Am.Gd P (hU c) noC:=fun f m q h=>by cases h
end
end Go.Bm

/- Operations that read, and that make blocks and boxes: from the model. -/
namespace Go.Bm
open Go.Am
theorem l6:∀(a b:List AV),aA (a++b)=aA a++aA b
 |[],b=>rfl
 |x::r,b=>by simp[aA,l6 r b]
theorem Ue (k:Nat):∀(n:Nat) (ys:List AV),n*k<=ys.length->aA (E7 k n ys)=ys.take (n*k)
 |0,ys,_=>by simp[E7,aA]
 |n+1,ys,h=>by
   have h':n*k+k<=ys.length:=by rw[cK] at h; omega
   simp only[E7,aA,vU];rw[Ue k n (ys.drop k) (by rw[eQ]; omega),cK,Nat.one_mul,Nat.add_comm,List.take_add]
theorem Ud (e:AV):∀n,aA (aW n e)=rep e.cells n
 |0=>rfl
 |n+1=>by simp[List.replicate_succ,aA,rep,Ud e n]
theorem wv (f:AV->AV) (zs:List AV):∀n,rep (zs.map f) n=(rep zs n).map f
 |0=>rfl
 |n+1=>by simp[rep,wv f zs n]
theorem PH (zs:List AV):∀n,(rep zs n).length=n*zs.length
 |0=>by simp[rep]
 |n+1=>by simp[rep,PH zs n,cK]; omega
theorem AG {zs:List AV} {x:AV}:∀{n:Nat},x∈rep zs n->x∈zs
 |0,h=>by simp[rep] at h
 |n+1,h=>by
   simp only[rep,aF] at h;rcases h with h|h
   ·exact h
   ·exact AG h
theorem qf:∀{cs:List AV},E8 cs=true->∀x∈cs,fz x=true
 |[],_,x,hx=>by simp at hx
 |y::r,h,x,hx=>by
   simp only[E8,ae] at h;rcases aG.1 hx with e|e
   ·subst e; exact h.1
   ·exact qf h.2 x e
theorem IC {o:Rt->Option (Nat × List AV)} {nb:Nat}:∀{cs:List AV},mg o nb cs->∀x∈cs,cP o nb x
 |[],_,x,hx=>by simp at hx
 |y::r,h,x,hx=>by
   rcases aG.1 hx with e|e
   ·subst e; exact h.1
   ·exact IC h.2 x e
theorem CE {o:Rt->Option (Nat × List AV)} {nb:Nat}:∀{cs:List AV},(∀x∈cs,cP o nb x)->mg o nb cs
 |[],_=>trivial
 |y::r,h=>⟨h y (by simp),CE fun x hx=>h x (by simp[hx])⟩
theorem O4:∀{vs:List Value} {xs:List AV},tI vs xs=true->xs.length=vs.length
 |[],[],_=>rfl
 |[],_::_,h=>by simp[tI] at h
 |_::_,[],h=>by simp[tI] at h
 |v::r,x::s,h=>by simp only[tI,ae] at h; simp[O4 h.2]
theorem aim:∀{zs:List AV},pz (wZ zs)=true->bC (wZ zs)=true->∀z∈zs,fz (eK z)=true
 |[],_,_,z,hz=>by simp at hz
 |x::r,h1,h2,z,hz=>by
   simp only[wZ,pz,bC,ae] at h1 h2;rcases aG.1 hz with e|e
   ·subst e;rcases dn_c (Ey h1.1) with⟨k,rfl,e⟩|⟨hc,e⟩
    ·rfl
    ·rw[e] at h1 h2;have h1':=h1.1;have E6:=h2.1;cases z<;>first|rfl|(simp[CS] at h1'; done)|(simp[AV.leaf] at E6; done)
   ·exact aim h1.2 h2.2 z e
theorem acE {R:Addr->Value->Prop} {φ:dj} {x:AV} {v:Value} (h:bO R φ x v):φ=[]->pl x=true:=by
 have all:∀{cs:List AV} {vs:Array Value},cs.length=vs.size->(∀(i:Nat) (c:AV) (v:Value),cs[i]?=some c->vs[i]?=some v->pl c=true)->dq cs=true:=by
  intro cs
  induction cs with
  |nil=>intro vs _ _; rfl
  |cons x r ih=>
    intro vs hl h;simp only[dq,ae];obtain⟨u,hu⟩:=bX (l:=vs) (i:=0) (by simp at hl; omega);refine⟨h 0 x u rfl hu,ih (vs:=vs.extract 1 vs.size) (by simp at hl ⊢; omega) fun i c v hc hv=>?_⟩;refine h (i+1) c v (by simpa using hc) ?_;rw[Array.getElem?_extract] at hv;split at hv
    ·rwa [Nat.add_comm] at hv
    ·cases hv
 induction h with
 |agg φ cs vs hl h ih=>intro e; simp only[pl]; exact all hl fun i c v h1 h2=>ih i c v h1 h2 e
 |dt φ cs vs hl h ih=>intro e; simp only[pl]; exact all hl fun i c v h1 h2=>ih i c v h1 h2 e
 |CI φ b a hb ho=>intro e; subst e; simp at hb
 |func φ f as va bs vb hy CW CV ha hb iha ihb=>intro e; simp only[pl,ae,Bool.not_eq_true']; exact⟨hy,all CW fun i c v h1 h2=>iha i c v h1 h2 e,all CV fun i c v h1 h2=>ihb i c v h1 h2 e⟩
 |ptr φ b off a hb h=>intro e; subst e; simp at hb
 |sl φ k b off len a cap hb hc h=>intro e; subst e; simp at hb
 |_=>intro _; rfl
mutual
theorem vK {o:Rt->Option (Nat × List AV)} {nb:Nat}:∀x,pl x=true->cP o nb x
 |.agg cs,h=>by simp only[pl] at h; exact KD cs h
 |.dt cs,h=>by simp only[pl] at h; exact KD cs h
 |.func f a b,h=>by simp only[pl,ae] at h; exact⟨KD a h.2.1,KD b h.2.2,fun hy=>by rw[hy] at h; exact absurd h.1 (by simp)⟩
 |.any,_=>trivial
 |.undef,_=>trivial
 |.fN,_=>trivial
 |.fS,_=>trivial
 |.du,_=>trivial
 |.int _ _,_=>trivial
 |.bool _,_=>trivial
 |.str _,_=>trivial
 |.list _ _,_=>trivial
 |.dy _,_=>trivial
 |.own _ _,h=>by simp[pl] at h
 |.dP _ _ _ _,h=>by simp[pl] at h
 |.fv _ _ _ _,h=>by simp[pl] at h
 |.ptr _ _,h=>by simp[pl] at h
 |.sl _ _ _ _,h=>by simp[pl] at h
theorem KD {o:Rt->Option (Nat × List AV)} {nb:Nat}:∀cs,dq cs=true->mg o nb cs
 |[],_=>trivial
 |x::r,h=>by simp only[dq,ae] at h; exact⟨vK x h.1,KD r h.2⟩
end
theorem CZ:∀{ds:List AV},bT ds=false->∀(j k:Nat) (xs:List AV),ds[j]?≠some (.own k xs)
 |[],_,j,k,xs,e=>by simp at e
 |y::r,h,j,k,xs,e=>by
   cases j with
   |zero=>simp at e; subst e; simp[bT] at h
   |succ j=>exact CZ (ds:=r) (by cases y<;>simp[bT] at h<;>exact h) j k xs (by simpa using e)
theorem nU {x:AV} (h:bV x=false):EO x:=by
 cases x<;>simp only[EO]<;>try (simp[bV] at h; done)
 exact fun j k xs e=>absurd e (CZ h j k xs)
theorem acK {ag:Option Nat} {xs ys:List AV} {x:AV} (h:Fj ag xs=some x) (hl:xs.length<=ys.length) (hle:∀(i:Nat) (a b:AV),xs[i]?=some a->ys[i]?=some b->Le a b):∃y,Fj ag ys=some y/\Le x y:=by
 unfold Fj at h ⊢;cases ag with
 |some k=>
   simp only at h ⊢;split at h
   case isFalse=>cases h
   rename_i hk;simp at h;subst h;rw[if_pos (by omega)];refine⟨_,rfl,Le.agg (by simp; omega) fun i a b ha hb=>?_⟩;rw[bP] at ha hb;split at ha
   ·rename_i hi;rw[if_pos hi] at hb;exact hle i a b ha hb
   ·cases ha
 |none=>
   simp only at h ⊢;cases xs with
   |nil=>cases h
   |cons a r=>
     simp at h;subst h;cases ys with
     |nil=>simp at hl
     |cons b r'=>exact⟨b,rfl,hle 0 a b rfl rfl⟩
section
variable {P:Program} {X:Nat->Prop} {φ φ':dj} {w w':World} {N N':Names} {s s1:St} {Ha Ha':Heap} {t:Nat->Value} {B:Nat->Nat} {base:Nat} {v va:AV} {v':Value} {c:eI} {o:Oper} {a:Act} {kd:Kd}
theorem Ul {t:TypeId} {k:Nat} {zs:List AV} (h1:jt P t k=true) (h2:iT P t zs=true):zs.length=k/\pz zs=true/\bC zs=true:=by
 obtain⟨e,i,z,hu,hi,wi,hk0,hby,TV,U4⟩:=jA h1;unfold iT at h2;rw[hu] at h2;simp only at h2;refine⟨?_,(vq h2).1,(vq h2).2⟩;unfold qZ at h2;rw[hi] at h2;simp only[TV,ae] at h2;have:=O4 h2.1;rw[this];simpa using U4
theorem mZ (hm:P.follows .mixedOrders=true) (h:eW X φ w N s Ha (tm a)) (hg:Am.dX (hU c) X φ w) (hk:cX P o.op kd=true) {fl:Fp} (hs:fO (hU c) noC (Dg N s.env) Ha kd=some (va,Ha',fl)):Ok P X φ w o a va Ha':=
 amk (alu hm c) (afy c) (fun i=>by rw[oY]; exact h.env i) hg h.heap hk hs
theorem Z4 (hm:P.follows .mixedOrders=true) (h:SB X φ w B base s (tm a)) (hg:Am.dX (hU c) X φ w) (hk:cX P o.op (mV kd)=true) (hs:VZ c s.env kd=some v):nh P X φ w B base s v o a:=by
 obtain⟨N,Ha,h,hb⟩:=h;obtain⟨h1,h2,h3⟩:=aj8 (cA:=hU c) (call:=noC) h rfl hk hs;refine nh.of (mZ hm h hg hk h1) fun v' w' φ' r hh ad=>?_;exact dU.quiet (h.nZ ad hh h.own (fun _ _=>rfl)) hb h2 h3 r
theorem V0 (hm:P.follows .mixedOrders=true) (h:SB X φ w B base s (tm a)) (hg:Am.dX (hU c) X φ w) {zs:List AV} (hk:cX P o.op (mV (.new zs))=true):nh P X φ w B base ⟨s.env,s.H++[some zs]⟩ (.ptr s.H.length 0) o a:=by
 obtain⟨N,Ha,h,hb,hl⟩:=h;obtain⟨t,ht⟩:=ahO hk;obtain⟨e1,e2⟩:=ER N (vq ht).1;refine nh.of (mZ hm h hg hk (by simp only[mV,fO]; rfl)) fun v' w' φ' r hh ad=>?_;obtain⟨N',n1,n2,h'⟩:=h.PZ ad hh (D6 (vq ht).1) e2 e1;refine dU.quiet h' ⟨fun b bF=>by rw[n1 b (by omega)]; exact hb b bF,by simp; omega⟩ (by simp[cP]) trivial ?_;simp only[yE,cS,n2];exact r
theorem agN (hm:P.follows .mixedOrders=true) (h:SB X φ w B base s (tm a)) (hg:Am.dX (hU c) X φ w) {x:E} (hk:cX P o.op (mV (.box x))=true) (A3:bC (bp c s.env x).cells=true):nh P X φ w B base ⟨s.env,s.H++[some (bp c s.env x).cells]⟩ (.ptr s.H.length 0) o a:=by
 obtain⟨N,Ha,h,hb,hl⟩:=h;obtain⟨o',ho⟩:=ah1 hk;have hx:=cJ (c:=c) (cA:=hU c) h rfl ho;have hc:=L0 N hx.na;refine nh.of (mZ hm h hg hk (by simp only[mV,fO,hx.ev,hc,xj h A3 (zD hx.ok),if_true]; rfl)) fun v' w' φ' r hh ad=>?_;obtain⟨N',n1,n2,h'⟩:=h.PZ ad hh (zD hx.ok) hx.EOL rfl;refine dU.quiet h' ⟨fun b bF=>by rw[n1 b (by omega)]; exact hb b bF,by simp; omega⟩ (by simp[cP]) trivial ?_;simp only[yE,cS,n2];exact r
theorem EH (h:eW X φ w N s Ha t) (hb:(∀b,b<base->N.β b=B b)/\base<=s.H.length) (ad:fg φ w φ' w') {cs:List AV} (hh:cj X φ' w' (Ha++[some cs])) {k:Nat} {xs:List AV} (hlen:xs.length*k<=cs.length) (hk:∀x∈xs,x.cells.length=k)
  (hc:∀(i:Nat) (d:AV),(aA xs)[i]?=some d->fz d=true/\∃ e,cs[i]?=some e/\e.leaf=true/\Le d e) (r:bO (Rd X φ' w') φ' (.sl k Ha.length 0 xs.length) v'):dU X φ' w' B base s (.own k xs) t v':=by
 refine dU.fresh (h.push ad hh) hb (n:=Ha.length) ⟨cs,Ma _ _,hlen,hk,hc⟩ (fun q hq e=>?_) (fun b hb e=>?_) r
 ·have:=h.gJ hq e; omega
 ·have:=h.tP hb; omega
theorem V4 (hm:P.follows .mixedOrders=true) (h:SB X φ w B base s (tm a)) (hg:Am.dX (hU c) X φ w) {k n:Nat} {zs cs:List AV} {ps:List (Nat × Nat × E)} (hk:cX P o.op (mV (.dK k n zs ps))=true) (hf:sE c s.env (rep zs n) ps=some cs) (hz:E8 (cs.map eK)=true) :
  nh P X φ w B base s (.own k (E7 k n (cs.map eK))) o a:=by
 obtain⟨N,Ha,h,hb⟩:=h;obtain⟨⟨t,ht1,ht2⟩,hq⟩:=Xe hk;obtain⟨z1,z2,z3⟩:=Ul ht1 ht2;obtain⟨e1,e2⟩:=ER N z2;have Ln:rep (wZ zs) n=iI N (rep zs n):=by rw[e1,vt,vt,wv]
 have FQ:zs.length=k:=by rw[<-z1,e1,jy]
 have hzok:mg (az s) s.H.length (rep zs n):=CE fun x hx=>IC (D6 z2) x (AG hx)
 have hzeo:EOL (rep zs n):=fun j k' xs hj=>by
  obtain⟨i,hi⟩:=bE (AG (bn hj));exact e2 i k' xs hi
 obtain⟨f1,f2,f3,f4⟩:=uD (cA:=hU c) h rfl hq hzok hzeo hf;have II:cs.length=n*k:=by rw[f4,PH,FQ]
 have A3:bC cs=true:=by
  have:∀{l:List AV},(∀x∈l,x.leaf=true)->bC l=true:=by
   intro l
   induction l with
   |nil=>intro _; rfl
   |cons y r ih=>intro h; simp only[bC,ae]; exact⟨h y (by simp),ih fun x hx=>h x (by simp[hx])⟩
  refine this fun x hx=>?_;have:=(mh (qf hz (eK x) (s8 hx))).2;cases x<;>first|exact this|rfl
 have amC:∀x∈cs,x.leaf=true:=fun x hx=>by
  have:=(mh (qf hz (eK x) (s8 hx))).2;cases x<;>first|exact this|rfl
 refine nh.of (mZ hm h hg hk (by simp only[mV,fO,Ln,f1,xj h A3 f2,if_true]; rfl)) fun v' w' φ' r hh ad=>?_;obtain⟨g1,g2⟩:=Lu k n (cs.map eK) (by simp[II]);refine EH h hb ad hh (by rw[g1,jy,II]; omega) (fun x hx=>?_) (fun i d hd=>?_) (by rw[g1]; exact r)
 ·obtain⟨i,hi⟩:=bE hx;obtain⟨q1,q2⟩:=g2 i x hi;rw[q1,bw,eQ,aQ,II];have:(i+1)*k<=n*k:=bS k q2;rw[cK] at this;omega
 ·rw[Ue k n _ (by simp[II]),<-II,show (cs.map eK).take cs.length=cs.map eK from List.take_of_length_le (by simp),cn] at hd;cases hc:cs[i]? with
  |none=>rw[hc] at hd; cases hd
  |some x=>
    rw[hc] at hd;simp at hd;subst hd;have Ii:=qf hz (eK x) (s8 (bn hc));exact⟨Ii,gL N x,by rw[qt,hc]; rfl,P8 h (amC x (bn hc)) (IC f2 x (bn hc)),aau N Ii (fun k xs e=>f3 i k xs (by rw[hc,e]))⟩
theorem agI (hm:P.follows .mixedOrders=true) (h:SB X φ w B base s (tm a)) (hg:Am.dX (hU c) X φ w) {k:Nat} {zs:List AV} {x y:E} {k1 k2:IntKind} {l cp:Int} (hk:cX P o.op (mV (.P6 k zs x y))=true) (hx:bp c s.env x=.int k1 l) (hy:bp c s.env y=.int k2 cp) (hc:0<=l/\l<=cp/\cp<=(lU:Int)) :
  nh P X φ w B base s (.own k (aW l.toNat (el (zs.map eK)))) o a:=by
 obtain⟨N,Ha,h,hb⟩:=h;obtain⟨⟨t,ht1,ht2⟩,⟨o1,h1⟩,o2,h2⟩:=aa5 hk;obtain⟨z1,z2,z3⟩:=Ul ht1 ht2;obtain⟨e1,e2⟩:=ER N z2;have FQ:zs.length=k:=by rw[<-z1,e1,jy]
 have MT:=(cJ (c:=c) (cA:=hU c) h rfl h1).int hx;have Lk:=(cJ (c:=c) (cA:=hU c) h rfl h2).int hy;refine nh.of (mZ hm h hg hk (by simp only[mV,fO,MT,Lk,if_pos hc]; rfl)) fun v' w' φ' r hh ad=>?_;refine EH h hb ad hh (by rw[cV,PH,z1]; omega) (fun u hu=>?_) (fun i d hd=>?_) (by rw[cV]; exact r)
 ·rw[List.eq_of_mem_replicate hu,vU,aQ,FQ]
 ·rw[Ud,vU,wv,cn] at hd;cases hc':(rep zs l.toNat)[i]? with
  |none=>rw[hc'] at hd; cases hd
  |some z=>
    rw[hc'] at hd;simp at hd;subst hd;have hmem:=AG (bn hc');obtain⟨j,hj⟩:=bE hmem;have heo:∀k xs,z=.own k xs->xs=[]:=fun k xs e=>e2 j k xs (by rw[hj,e]);have Ii:fz (eK z)=true:=aim z2 z3 z hmem
    have A3:(gL N z).leaf=true:=by
     have Wz:gL N z∈wZ zs:=by rw[e1,vt]; exact s8 hmem
     have:∀{l:List AV},bC l=true->∀x∈l,x.leaf=true:=by
      intro l
      induction l with
      |nil=>intro _ x hx; simp at hx
      |cons y r ih=>
        intro q x hx;simp only[bC,ae] at q;rcases aG.1 hx with e|e
        ·subst e; exact q.1
        ·exact ih q.2 x e
     exact this z3 _ Wz
    exact⟨Ii,gL N z,by rw[e1]; rw[vt,wv,cn,hc']; rfl,A3,aau N Ii heo⟩
theorem ah7 {zs z:List AV} (h:boxZ zs=some z):wZ zs=[.du]/\∃ k,z=[.own k []]:=by
 unfold boxZ at h;split at h
 case h_2=>cases h
 rename_i k;split at h
 case isFalse=>cases h
 simp at h;exact⟨rfl,_,h.symm⟩
theorem agH (hm:P.follows .mixedOrders=true) (h:SB X φ w B base s (tm a)) (hg:Am.dX (hU c) X φ w) {k:Nat} {zs z:List AV} {x y:E} {k1 k2:IntKind} {l cp:Int} (hk:cX P o.op (mV (.P6 k zs x y))=true) (hz:boxZ zs=some z) (hx:bp c s.env x=.int k1 l) (hy:bp c s.env y=.int k2 cp) (hc:0<=l/\l<=cp/\cp<=(lU:Int)) :
  nh P X φ w B base ⟨s.env,s.H++[some (rep z l.toNat)]⟩ (.sl k s.H.length 0 l.toNat) o a:=by
 obtain⟨N,Ha,h,hb,hl⟩:=h;obtain⟨_,⟨o1,h1⟩,o2,h2⟩:=aa5 hk;obtain⟨e1,k',rfl⟩:=ah7 hz;have MT:=(cJ (c:=c) (cA:=hU c) h rfl h1).int hx;have Lk:=(cJ (c:=c) (cA:=hU c) h rfl h2).int hy;refine nh.of (mZ hm h hg hk (by simp only[mV,fO,MT,Lk,if_pos hc]; rfl)) fun v' w' φ' r hh ad=>?_
 obtain⟨N',n1,n2,h'⟩:=h.PZ (zs:=rep [.own k' []] l.toNat) ad hh (CE fun u hu=>by
  have:=AG hu;simp at this;subst this;exact trivial) (fun j kk xs hj=>by
  have:=AG (bn hj);simp at this;exact this.2) (by rw[e1,vt,<-wv]; rfl)
 refine dU.quiet h' ⟨fun b bF=>by rw[n1 b (by omega)]; exact hb b bF,by simp; omega⟩ (by simp[cP]) trivial ?_;simp only[yE,cS,n2];exact r
theorem aiU (h:eW X φ w N s Ha (tm a)) (hg:Am.dX (hU c) X φ w) {ag:Option Nat} {x:E} {ps:List Rt} {o':Operand} (ho:cY o' (ny x)=true) (hs:CC s ag (bp c s.env x)=some (v,ps)) :
  ∃ va fl,fO (hU c) noC (Dg N s.env) Ha (mV (.ld ag x))=some (va,Ha,fl)/\Le (yE N v) va/\cP (az s) s.H.length v/\EO v:=by
 have hx:=cJ (c:=c) (cA:=hU c) h rfl ho;have dm:=hx.ok
 have fin:∀{va:AV} {fl:Fp},fO (hU c) noC (Dg N s.env) Ha (mV (.ld ag x))=some (va,Ha,fl)->Le (yE N v) va->cP (az s) s.H.length v->EO v->∃va fl,fO (hU c) noC (Dg N s.env) Ha (mV (.ld ag x))=some (va,Ha,fl)/\Le (yE N v) va/\cP (az s) s.H.length v/\EO v:=
  fun e hle h2 h3=>⟨_,_,e,hle,h2,h3⟩
 have rdn:∀{cs:List AV},PJ ag cs=some v->Fj ag cs=some v/\bV v=false:=by
  intro cs hu;unfold PJ at hu;split at hu
  case h_2=>cases hu
  rename_i u' hr;split at hu
  ·cases hu
  rename_i iv;simp at hu iv;subst hu;exact⟨hr,iv⟩
 have plrd:∀{cs:List AV},Fj ag cs=some v->(∀x∈cs,pl x=true)->pl v=true:=by
  intro cs hr hp;unfold Fj at hr;cases ag with
  |some k=>
    simp only at hr;split at hr
    case isFalse=>cases hr
    simp at hr;subst hr;simp only[pl]
    have:∀{l:List AV},(∀x∈l,pl x=true)->dq l=true:=by
     intro l
     induction l with
     |nil=>intro _; rfl
     |cons y r ih=>intro h; simp only[dq,ae]; exact⟨h y (by simp),ih fun x hx=>h x (by simp[hx])⟩
    exact this fun x hx=>hp x (dh hx)
  |none=>
    simp only at hr;cases cs with
    |nil=>cases hr
    |cons y r=>simp at hr; subst hr; exact hp y (by simp)
 unfold CC at hs;cases e:bp c s.env x<;>rw[e] at hs dm<;>try (simp at hs; done)
 ·rename_i cs;simp only at hs;split at hs
  case h_2=>cases hs
  rename_i u hu;simp at hs;obtain⟨rfl,rfl⟩:=hs;obtain⟨hr,iv⟩:=rdn hu;have r:=bZ (c:=hU c) (env:=Dg N s.env) (a:=a) (fun i=>by rw[oY]; exact h.env i) hg ho;rw[hx.ev,e] at r;simp only[gL,cS] at r
  have oi:∀y∈cs,pl y=true:=by
   intro y hy;obtain⟨j,hj⟩:=bE hy;generalize a.eval o'=z at r;cases r with
   |dy _ _ _ u hu h=>exact acE (h j y hj) rfl
  have hv:=plrd hr oi;refine fin (va:=u) (by simp only[mV,fO,hx.ev,e,gL,cS,hr]; rfl) ?_ (vK _ hv) (nU iv);rw[nq N iv,l9 N _ hv];exact Le.refl _
 ·rename_i b off;simp only at hs;split at hs
  case h_2=>cases hs
  rename_i cs dI;split at hs
  case h_2=>cases hs
  rename_i u hu;simp at hs;obtain⟨rfl,rfl⟩:=hs;obtain⟨hr,iv⟩:=rdn hu;obtain⟨as,g1,g2,g3⟩:=h.box b cs dI
  have hokL:mg (az s) s.H.length (fc (.c b) 0 cs):=by
   refine gE.2 fun j d hd=>?_;rw[FH] at hd;cases hc:cs[j]? with
   |none=>rw[hc] at hd; cases hd
   |some d0=>
     rw[hc] at hd;simp only[cD,af,fX] at hd;subst hd;split
     ·rename_i k xs;simp only[cP];exact⟨xs,cC.2 (by rw[Af dI]; exact hc),by omega⟩
     ·exact (g3 j _ hc).1
  obtain⟨r1,r2,r3,_⟩:=VM N hu (Ea (n:=off) hokL);rw[<-I5,I3] at r1
  obtain⟨va,q1,q2⟩:=acK (ys:=as.drop off) r1 (by simp[gH]; omega) (fun i x y hx hy=>by
   rw[bf,gb] at hx;rw[bf] at hy;simp only[fX] at hx;cases hc:cs[off+i]? with
   |none=>rw[hc] at hx; cases hx
   |some d=>
     rw[hc] at hx;simp at hx;subst hx;obtain⟨_,a',a1,a2⟩:=g3 _ d hc;rw[a1] at hy;cases hy;exact a2)
  exact fin (va:=va) (by simp only[mV,fO,hx.ev,e,gL,cS,g1,q1]; rfl) q2 r2 r3
 ·rename_i k p i off;simp only at hs;split at hs
  case h_2=>cases hs
  rename_i k' xs hp;split at hs
  case isFalse=>cases hs
  rename_i wh;subst wh;split at hs
  case h_2=>cases hs
  rename_i el' hel;split at hs
  case h_2=>cases hs
  rename_i u hu;simp at hs;obtain⟨rfl,rfl⟩:=hs;obtain⟨hr,iv⟩:=rdn hu;obtain⟨n,hn,e2⟩:=Ku h dm;have eU:=h.own p k' xs hp;rw[hn] at eU;obtain⟨cs,c1,c2,c3,c4⟩:=eU;have iS:∀(j:Nat) (d:AV),el'.cells[j]?=some d->fz d=true/\∃ a,cs[i*k'+j]?=some a/\Le d a:=fun j d hd=>let ⟨f1,a,f2,_,f3⟩:=c4 _ d (EI c3 hel hd); ⟨f1,a,f2,f3⟩
  have oi:∀y∈el'.cells.drop off,pl y=true:=by
   intro y hy;obtain⟨j,hj⟩:=bE (di hy);exact (mh (iS j y hj).1).1
  have hv:=plrd hr oi;have amV:el'.cells.length=k':=c3 el' (bn hel);have hi:(i+1)*k'<=xs.length*k':=bS k' (ak hel);rw[cK] at hi
  obtain⟨va,q1,q2⟩:=acK (ys:=cs.drop (i*k'+off)) hr (by simp; omega) (fun j x y hx hy=>by
   rw[bf] at hx hy;obtain⟨_,a',a1,a2⟩:=iS _ x hx;rw[show i*k'+(off+j)=i*k'+off+j by omega] at a1;rw[a1] at hy;cases hy;exact a2)
  refine fin (va:=va) (by simp only[mV,fO,hx.ev,e,gL,e2,c1,q1]; rfl) ?_ (vK _ hv) (nU iv);rw[nq N iv,l9 N _ hv];exact q2
theorem akp (hm:P.follows .mixedOrders=true) (h:SB X φ w B base s (tm a)) (hg:Am.dX (hU c) X φ w) {ag:Option Nat} {x:E} {ps:List Rt} (hk:cX P o.op (mV (.ld ag x))=true) (hs:CC s ag (bp c s.env x)=some (v,ps)):nh P X φ w B base s v o a:=by
 obtain⟨N,Ha,h,hb⟩:=h;obtain⟨o',ho⟩:=aln hk;obtain⟨va,fl,e,hle,h2,h3⟩:=aiU h hg ho hs;refine nh.of (mZ hm h hg hk e) fun v' w' φ' r hh ad=>?_;exact dU.quiet (h.nZ ad hh h.own (fun _ _=>rfl)) hb h2 h3 (hle _ _ _ r)
end
end Go.Bm
