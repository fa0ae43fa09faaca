/- The machine by value: what a state stands for. -/
import Derived.Test.YtmildmgogdmknaaGreatDoorBmA
/- How a state by value stands for a state of the older machine. -/
set_option linter.unusedSimpArgs false
open Bool renaming and_eq_true → ae, or_eq_false_iff → fD
open List renaming ext_getElem? → eT, getElem?_append_left → aB, getElem?_append_right → aR, getElem?_drop → br, getElem?_eq_none → fj, getElem?_map → ct, getElem?_of_mem → bH, getElem?_set → bg, getElem?_set_ne → bT, getElem?_take → bN, length_drop → eS, length_map → jQ, length_replicate → cz, length_take → bF, mem_append → aG, mem_cons → aK, mem_map_of_mem → sC, mem_of_getElem? → bt, mem_of_mem_drop → dB, mem_of_mem_take → dA, mem_singleton → cG, replicate → aH
open Nat renaming add_mul → cT, le_refl → aY, mul_le_mul_right → bS, zero_add → ik, zero_mul → qk
open Ne renaming symm → fM
open Option renaming isSome_iff_exists → aV, map_some → dE
open Option.some renaming inj → dv, injEq → ai
open Prod.mk renaming injEq → aP
namespace Go.Bm
open Go.Am

structure Names where
 β:Nat->Nat
 ν:Rt->Option Nat

mutual
def df (N:Names):AV->AV
 |.eE k p off len=>match N.ν p with
   |some n=>.sl k n (off*k) len
   |none=>.dO
 |.fP k p i off=>match N.ν p with
   |some n=>.ptr n (i*k+off)
   |none=>.any
 |.ptr b off=>.ptr (N.β b) off
 |.agg cs=>.agg (m9 N cs)
 |.dJ cs=>.dJ (m9 N cs)
 |.func f a b=>.func f (m9 N a) (m9 N b)
 |.own _ _=>.any
 |.sl k b off len=>.sl k (N.β b) off len
 |.any=>.any|.undef=>.undef|.gq=>.gq|.gz=>.gz|.dO=>.dO
 |.int k n=>.int k n|.bool b=>.bool b|.str s=>.str s
 |.list k xs=>.list k xs|.dV cs=>.dV cs
def m9 (N:Names):List AV->List AV
 |[]=>[]
 |x::r=>df N x::m9 N r
end
def tJ (N:Names) (p:Rt) (k len:Nat):AV:=
 match N.ν p with
 |some n=>.sl k n 0 len
 |none=>.dO
def kf (N:Names) (p:Rt):AV->AV
 |.own k xs=>tJ N p k xs.length
 |v=>df N v
def Wf (N:Names) (f:Nat->Rt):Nat->List AV->List AV
 |_,[]=>[]
 |j,x::r=>kf N (f j) x::Wf N f (j+1) r
def lK (N:Names) (i:Nat):AV->AV
 |.agg cs=>.agg (Wf N (.sc i) 0 cs)
 |v=>kf N (.s i) v
def DQ (N:Names):Env->Env
 |[]=>[]
 |(i,v)::r=>(i,lK N i v)::DQ N r

def Le (x y:AV):Prop:=∀R φ v,cB R φ y v->cB R φ x v
theorem Le.refl (x:AV):Le x x:=fun _ _ _ h=>h
theorem Le.trans {x y z:AV} (h:Le x y) (k:Le y z):Le x z:=fun R φ v r=>h R φ v (k R φ v r)
theorem Le.any (y:AV):Le .any y:=fun _ _ _ _=>.any _ _
theorem Le.agg {xs ys:List AV} (hl:xs.length=ys.length) (h:∀(i:Nat) (x y:AV),xs[i]?=some x->ys[i]?=some y->Le x y):Le (.agg xs) (.agg ys):=by
 intro R φ v r;cases r with
 |agg _ _ vs Lq h2=>
   refine .agg _ _ _ (hl.trans Lq) fun i c u hc hu=>?_;obtain⟨y,hy⟩:=bu (l:=ys) (i:=i) (by have:=aC hc; omega);exact h i c y hc hy _ _ _ (h2 i y u hy hu)
theorem Le.eV (k:Nat):Le (.list k []) .dO:=by
 intro R φ v r;cases r with
 |dO=>exact .kJ _ _

mutual
def c9 (o:Rt->Option (Nat × List AV)) (nb:Nat):AV->Prop
 |.eE k p off len=>∃xs,o p=some (k,xs)/\off+len<=xs.length
 |.fP k p i _=>∃xs,o p=some (k,xs)/\i<xs.length
 |.ptr b _=>b<nb
 |.agg cs=>lJ o nb cs
 |.dJ cs=>lJ o nb cs
 |.func _ a b=>lJ o nb a/\lJ o nb b
 |.sl _ b _ _=>b<nb
 |_=>True
def lJ (o:Rt->Option (Nat × List AV)) (nb:Nat):List AV->Prop
 |[]=>True
 |x::r=>c9 o nb x/\lJ o nb r
end
theorem hZ {o:Rt->Option (Nat × List AV)} {nb:Nat}:∀{cs:List AV},lJ o nb cs ↔ ∀(i:Nat) (c:AV),cs[i]?=some c->c9 o nb c
 |[]=>by simp[lJ]
 |x::r=>by
   simp only[lJ,hZ (cs:=r)];constructor
   ·rintro⟨h1,h2⟩ i c hc;cases i with
    |zero=>simp at hc; exact hc▸h1
    |succ i=>exact h2 i c (by simpa using hc)
   ·intro h;exact⟨h 0 x rfl,fun i c hc=>h (i+1) c (by simpa using hc)⟩

def pd (H:Heap) (o:Option Nat) (k:Nat) (xs:List AV):Prop:=
 match o with
 |none=>xs=[]
 |some n=>∃cs,aO H n=some cs/\xs.length*k<=cs.length/\(∀x∈xs,x.cells.length=k)/\∀ (i:Nat) (c:AV),(aI xs)[i]?=some c->fz c=true/\∃ a,cs[i]?=some a/\a.leaf=true/\Le c a

structure fx (X:Nat->Prop) (φ:dQ) (w:World) (N:Names) (s:St) (Ha:Heap) (t:Nat->Value):Prop where
 env:∀i,cB (Rd X φ w) φ (lK N i (get s.env i)) (t i)
 Ib:∀i,c9 (aD s) s.H.length (get s.env i)
 heap:cK X φ w Ha
 own:∀p k xs,aD s p=some (k,xs)->pd Ha (N.ν p) k xs
 box:∀b cs,aO s.H b=some cs->∃as,aO Ha (N.β b)=some as/\as.length=cs.length/\∀ (j:Nat) (c:AV),cs[j]?=some c->c9 (aD s) s.H.length c/\∃ a,as[j]?=some a/\Le (kf N (.c b j) c) a
 inj:∀p q n,(aD s p).isSome->(aD s q).isSome->N.ν p=some n->N.ν q=some n->p=q
 bx:∀b p,(aO s.H b).isSome->(aD s p).isSome->N.ν p≠some (N.β b)
 bi:∀b c,(aO s.H b).isSome->(aO s.H c).isSome->N.β b=N.β c->b=c

/-! Lists and places -/
theorem nE (N:Names):∀(cs:List AV) (i:Nat),(m9 N cs)[i]?=(cs[i]?).map (df N)
 |[],i=>by simp[m9]
 |x::r,i=>by cases i<;>simp[m9,nE N r]
theorem eG (N:Names):∀cs:List AV,(m9 N cs).length=cs.length
 |[]=>rfl
 |x::r=>by simp[m9,eG N r]
theorem gV (N:Names) (f:Nat->Rt):∀(cs:List AV) (j i:Nat),(Wf N f j cs)[i]?=(cs[i]?).map (kf N (f (j+i)))
 |[],j,i=>by simp[Wf]
 |x::r,j,i=>by
   cases i with
   |zero=>simp[Wf]
   |succ i=>simp only[Wf,List.getElem?_cons_succ,gV N f r]; rw[show j+1+i=j+(i+1) by omega]
theorem jo (N:Names) (f:Nat->Rt):∀(cs:List AV) (j:Nat),(Wf N f j cs).length=cs.length
 |[],j=>rfl
 |x::r,j=>by simp[Wf,jo N f r]
theorem ft (g:AV->AV):∀(cs:List AV) (i:Nat),(dq g cs)[i]?=(cs[i]?).map (cZ g)
 |[],i=>by simp[dq]
 |x::r,i=>by cases i<;>simp[dq,ft g r]
theorem cW (g:AV->AV):∀cs:List AV,(dq g cs).length=cs.length
 |[]=>rfl
 |x::r=>by simp[dq,cW g r]
theorem nO (N:Names):∀(e:Env) (i:Nat),get (DQ N e) i=lK N i (get e i)
 |[],i=>rfl
 |(j,u)::r,i=>by
   simp only[DQ,Am.get];split
   ·rename_i h; rw[h]
   ·exact nO N r i
theorem dT (g:AV->AV):∀(e:Env) (i:Nat),get (k8 g e) i=cZ g (get e i)
 |[],i=>rfl
 |(j,u)::r,i=>by
   simp only[k8,Am.get];split
   ·rfl
   ·exact dT g r i
theorem KW (g:AV->AV):∀(H:Heap) (b:Nat),(fI g H)[b]?=(H[b]?).map (Option.map (dq g))
 |[],b=>by simp[fI]
 |none::r,b=>by cases b<;>simp[fI,KW g r]
 |some cs::r,b=>by cases b<;>simp[fI,KW g r]
theorem gk (g:AV->AV):∀H:Heap,(fI g H).length=H.length
 |[]=>rfl
 |none::r=>by simp[fI,gk g r]
 |some cs::r=>by simp[fI,gk g r]
theorem fZ (g:AV->AV) (H:Heap) (b:Nat):aO (fI g H) b=(aO H b).map (dq g):=by
 unfold aO;rw[KW];cases H[b]? with
 |none=>rfl
 |some o=>cases o<;>rfl
theorem r9 {H:Heap} {b:Nat} {cs:List AV}:aO H b=some cs ↔ H[b]?=some (some cs):=by
 constructor
 ·exact vZ
 ·intro h; unfold aO; rw[h]
theorem eI {H:Heap} {b:Nat} {cs:List AV} (h:aO H b=some cs):b<H.length:=aC (vZ h)
theorem eF (H:Heap) (b c:Nat) (x:List AV):aO (H.set b (some x)) c=if c=b/\b<H.length then some x else aO H c:=by
 unfold aO;rw[bg];by_cases h:b=c
 ·subst h;by_cases hl:b<H.length
  ·simp[hl]
  ·simp[hl]
 ·simp[h,fM h]
theorem fY (H:Heap) (x:List AV) (c:Nat):aO (H++[some x]) c=if c=H.length then some x else aO H c:=by
 unfold aO;by_cases h:c<H.length
 ·rw[aB h,if_neg (by omega)]
 ·rw[aR (by omega)];by_cases h2:c=H.length
  ·subst h2; simp
  ·rw[if_neg h2,fj (l:=H) (by omega),fj (by simp; omega)]

def kK (x:AV):Prop:=∀cs,x≠.agg cs
def NOwn (x:AV):Prop:=∀k xs,x≠.own k xs
def kT (g:AV->AV):Prop:=∀k p o l,(kK (g (.eE k p o l))/\NOwn (g (.eE k p o l)))/\(kK (g (.fP k p o l))/\NOwn (g (.fP k p o l)))
theorem zY {g:AV->AV} (hg:kT g) (x:AV) (k:Nat) (xs:List AV):cZ g x=.own k xs ↔ x=.own k xs:=by
 cases x<;>simp[cZ]
 ·exact (hg _ _ _ _).1.2 _ _
 ·exact (hg _ _ _ _).2.2 _ _
theorem T7 {g:AV->AV} (hg:kT g) (x:AV) (cs:List AV):cZ g x=.agg cs ↔ ∃ds,x=.agg ds/\dq g ds=cs:=by
 cases x<;>simp[cZ]
 ·exact (hg _ _ _ _).1.1 _
 ·exact (hg _ _ _ _).2.1 _
theorem nj {g:AV->AV} (hg:kT g) {x:AV} (h:kK x):kK (cZ g x):=by
 intro cs e;obtain⟨ds,rfl,_⟩:=(T7 hg x cs).1 e;exact h _ rfl
theorem ku {g:AV->AV} (hg:kT g) (s:St) (p:Rt):at_ (cE g s) p=(at_ s p).map (cZ g):=by
 cases p with
 |s i=>simp[at_,cE,dT]
 |sc i j=>
   simp only[at_,cE,dT];generalize get s.env i=x;split
   ·rename_i cs h;obtain⟨ds,rfl,rfl⟩:=(T7 hg x cs).1 h;simp[ft]
   ·rename_i h;split
    ·rename_i ds;exact absurd rfl (h (dq g ds))
    ·rfl
 |c b j=>
   simp only[at_,cE,fZ];cases aO s.H b with
   |none=>rfl
   |some cs=>simp[ft]
theorem cM {s:St} {p:Rt} {k:Nat} {xs:List AV}:aD s p=some (k,xs) ↔ at_ s p=some (.own k xs):=by
 unfold aD;split
 ·rename_i k' xs' h;rw[h];simp
 ·rename_i h;constructor
  ·intro h'; cases h'
  ·intro h'; exact absurd h' (h k xs)
theorem jd {g:AV->AV} (hg:kT g) (s:St) (p:Rt):aD (cE g s) p=aD s p:=by
 cases h:aD s p with
 |none=>
   cases h2:aD (cE g s) p with
   |none=>rfl
   |some y=>
     obtain⟨k,xs⟩:=y;rw[cM,ku hg] at h2;cases hx:at_ s p with
     |none=>rw[hx] at h2; cases h2
     |some x=>
       rw[hx] at h2;simp only[dE,ai] at h2;rw[zY hg] at h2;subst h2;rw[cM.2 hx] at h;cases h
 |some y=>
   obtain⟨k,xs⟩:=y;rw[cM] at h ⊢;rw[ku hg,h];rfl

structure Shape (s s':St):Prop where
 agg:∀i cs,get s.env i=.agg cs->∃ds,get s'.env i=.agg ds/\ds.length=cs.length
 WT:∀i,kK (get s.env i)->kK (get s'.env i)
 len:s'.H.length=s.H.length
 box:∀b cs,aO s.H b=some cs->∃ds,aO s'.H b=some ds/\ds.length=cs.length
 F5:∀b,aO s.H b=none->aO s'.H b=none
theorem Shape.refl (s:St):Shape s s:=⟨fun _ cs h=>⟨cs,h,rfl⟩,fun _ h=>h,rfl,fun _ cs h=>⟨cs,h,rfl⟩,fun _ h=>h⟩
theorem Shape.trans {s s' s'':St} (h:Shape s s') (k:Shape s' s''):Shape s s'':=
 ⟨fun i cs hc=>let ⟨ds,h1,h2⟩:=h.agg i cs hc; let ⟨es,h3,h4⟩:=k.agg i ds h1; ⟨es,h3,h4.trans h2⟩,fun i hi=>k.WT i (h.WT i hi),k.len.trans h.len,
  fun b cs hc=>let ⟨ds,h1,h2⟩:=h.box b cs hc; let ⟨es,h3,h4⟩:=k.box b ds h1; ⟨es,h3,h4.trans h2⟩,fun b hb=>k.F5 b (h.F5 b hb)⟩
theorem Shape.map {g:AV->AV} (hg:kT g) (s:St):Shape s (cE g s) where
 agg i cs h:=⟨dq g cs,by simp[cE,dT,h,cZ],cW g cs⟩
 WT i h:=by simp only[cE,dT]; exact nj hg h
 len:=gk g s.H
 box b cs h:=⟨dq g cs,by simp[cE,fZ,h],cW g cs⟩
 F5 b h:=by simp[cE,fZ,h]
def Lf (s:St) (r:Rt):Prop:=∀i,r=.s i->kK (get s.env i)
def Fits (s:St) (p:Rt) (v:AV):Prop:=kK v/\∃ x,at_ s p=some x/\kK x
theorem Shape.set {s:St} {p:Rt} {v:AV} (h:Fits s p v):Shape s (setAt s p v):=by
 obtain⟨hv,x,hx,hn⟩:=h;cases p with
 |s i=>
   simp only[at_,ai] at hx;refine⟨fun j cs hc=>?_,fun j hj=>?_,rfl,fun b cs hc=>⟨cs,hc,rfl⟩,fun b hb=>hb⟩
   ·simp only[setAt,bM];by_cases Il:j=i
    ·subst Il; rw[hx] at hc; exact absurd hc (hn cs)
    ·rw[if_neg Il]; exact⟨cs,hc,rfl⟩
   ·simp only[setAt,bM];by_cases Il:j=i
    ·rw[if_pos Il]; exact hv
    ·rw[if_neg Il]; exact hj
 |sc i l=>
   simp only[at_] at hx;cases hg:get s.env i<;>rw[hg] at hx<;>simp at hx
   rename_i ds;have hs:setAt s (.sc i l) v=⟨put s.env i (.agg (ds.set l v)),s.H⟩:=by simp[setAt,hg]
   rw[hs];refine⟨fun j cs hc=>?_,fun j hj=>?_,rfl,fun b cs hc=>⟨cs,hc,rfl⟩,fun b hb=>hb⟩
   ·simp only[bM];by_cases Il:j=i
    ·subst Il; rw[hg] at hc; cases hc; exact⟨_,if_pos rfl,by simp⟩
    ·rw[if_neg Il]; exact⟨cs,hc,rfl⟩
   ·simp only[bM];by_cases Il:j=i
    ·subst Il; exact absurd hg (hj ds)
    ·rw[if_neg Il]; exact hj
 |c b l=>
   simp only[at_] at hx;cases hg:aO s.H b<;>rw[hg] at hx<;>simp at hx
   rename_i ds;have hs:setAt s (.c b l) v=⟨s.env,s.H.set b (some (ds.set l v))⟩:=by simp[setAt,hg]
   rw[hs];refine⟨fun j cs hc=>⟨cs,hc,rfl⟩,fun j hj=>hj,by simp,fun d cs hc=>?_,fun d hd=>?_⟩
   ·rw[eF];by_cases hdb:d=b
    ·subst hdb; rw[hg] at hc; cases hc; exact⟨_,if_pos ⟨rfl,eI hg⟩,by simp⟩
    ·rw[if_neg (fun h=>hdb h.1)]; exact⟨cs,hc,rfl⟩
   ·rw[eF];by_cases hdb:d=b
    ·subst hdb; rw[hg] at hd; cases hd
    ·rw[if_neg (fun h=>hdb h.1)]; exact hd
theorem GK {s:St} {p:Rt} {v:AV} (h:Fits s p v) {r:Rt} (hr:Lf s r):at_ (setAt s p v) r=if r=p then some v else at_ s r:=by
 obtain⟨hv,x,hx,hn⟩:=h;cases p with
 |s i=>
   simp only[at_,ai] at hx;cases r with
   |s j=>simp only[at_,setAt,bM]; by_cases Il:j=i<;>simp[Il]
   |sc j l=>
     simp only[at_,setAt,bM];by_cases Il:j=i
     ·subst Il;simp only[if_true,hx,reduceCtorEq,if_false];cases v<;>first|(exact absurd rfl (hv _))|(cases x<;>first|(exact absurd rfl (hn _))|rfl)
     ·simp[Il]
   |c b l=>simp[at_,setAt]
 |sc i l=>
   simp only[at_] at hx;cases hg:get s.env i<;>rw[hg] at hx<;>simp at hx
   rename_i ds;have hs:setAt s (.sc i l) v=⟨put s.env i (.agg (ds.set l v)),s.H⟩:=by simp[setAt,hg]
   rw[hs];cases r with
   |s j=>
     simp only[at_,bM,reduceCtorEq,if_false];by_cases Il:j=i
     ·subst Il;exact absurd hg (hr j rfl ds)
     ·simp[Il]
   |sc j m=>
     simp only[at_,bM];by_cases Il:j=i
     ·subst Il;simp only[if_true,hg,Rt.sc.injEq,true_and];rw[bg];by_cases hlm:l=m
      ·subst hlm;have:=aC hx;simp[this]
      ·simp[hlm,fM hlm]
     ·simp[Il]
   |c b m=>simp[at_]
 |c b l=>
   simp only[at_] at hx;cases hg:aO s.H b<;>rw[hg] at hx<;>simp at hx
   rename_i ds;have hs:setAt s (.c b l) v=⟨s.env,s.H.set b (some (ds.set l v))⟩:=by simp[setAt,hg]
   rw[hs];cases r with
   |s j=>simp[at_]
   |sc j m=>simp[at_]
   |c d m=>
     simp only[at_,eF];by_cases hdb:d=b
     ·subst hdb;simp only[eI hg,and_self,if_true,hg,Rt.c.injEq,true_and];rw[bg];by_cases hlm:l=m
      ·subst hlm;have:=aC hx;simp[this]
      ·simp[hlm,fM hlm]
     ·simp[hdb]

theorem aeG {N N':Names} {i:Nat} {x y:AV} (h1:∀cs,x=.agg cs->∃ds,y=.agg ds/\ds.length=cs.length/\∀ (j:Nat) (c d:AV),cs[j]?=some c->ds[j]?=some d->Le (kf N' (.sc i j) d) (kf N (.sc i j) c))
  (h2:kK x->kK y/\Le (kf N' (.s i) y) (kf N (.s i) x)):Le (lK N' i y) (lK N i x):=by
 by_cases hx:∃cs,x=.agg cs
 ·obtain⟨cs,rfl⟩:=hx;obtain⟨ds,rfl,hl,h⟩:=h1 cs rfl;simp only[lK];refine Le.agg (by simp[jo,hl]) fun j u v hu hv=>?_;rw[gV] at hu hv;simp only[ik] at hu hv;cases hd:ds[j]? with
  |none=>rw[hd] at hu; cases hu
  |some d=>
    cases hc:cs[j]? with
    |none=>rw[hc] at hv; cases hv
    |some c=>
      rw[hd] at hu; rw[hc] at hv;simp at hu hv;subst hu hv;exact h j c d hc hd
 ·have hn:kK x:=fun cs e=>hx ⟨cs,e⟩;obtain⟨hy,hle⟩:=h2 hn;have e1:lK N' i y=kf N' (.s i) y:=by cases y<;>first|rfl|exact absurd rfl (hy _)
  have e2:lK N i x=kf N (.s i) x:=by cases x<;>first|rfl|exact absurd rfl (hn _)
  rw[e1,e2]; exact hle
theorem L8 {s:St} {i:Nat} {cs:List AV} (h:get s.env i=.agg cs) (j:Nat):at_ s (.sc i j)=cs[j]?:=by simp[at_,h]
theorem Au {s:St} {b:Nat} {cs:List AV} (h:aO s.H b=some cs) (j:Nat):at_ s (.c b j)=cs[j]?:=by simp[at_,h]
theorem Ko {s:St} {p:Rt} (h:(aD s p).isSome):Lf s p:=by
 intro i hi cs hc;subst hi;cases ho:aD s (.s i) with
 |none=>rw[ho] at h; cases h
 |some y=>
   obtain⟨k,xs⟩:=y;rw[cM] at ho;simp[at_,hc] at ho
theorem pd.take {H:Heap} {o:Option Nat} {k m:Nat} {xs:List AV} (h:pd H o k xs):pd H o k (xs.take m):=by
 cases o with
 |none=>simp only[pd] at h ⊢; rw[h]; simp
 |some n=>
   simp only[pd] at h ⊢;obtain⟨cs,h1,h2,h3,h4⟩:=h;refine⟨cs,h1,?_,fun x hx=>h3 x (dA hx),fun i c hc=>?_⟩
   ·rw[bF]; exact Nat.le_trans (bS k (Nat.min_le_right _ _)) h2
   ·refine h4 i c ?_
    have:∀(m:Nat) (l:List AV) (i:Nat) (c:AV),(aI (l.take m))[i]?=some c->(aI l)[i]?=some c:=by
     intro m
     induction m with
     |zero=>intro l i c h; simp[aI] at h
     |succ m ih=>
       intro l i c h;cases l with
       |nil=>simpa using h
       |cons y r=>
         simp only[List.take_succ_cons,aI] at h ⊢;rw[List.getElem?_append] at h ⊢;split
         ·rename_i bD; rw[if_pos bD] at h; exact h
         ·rename_i bD; rw[if_neg bD] at h; exact ih _ _ _ h
    exact this m xs i c hc
theorem Kv {o:Rt->Option (Nat × List AV)} {nb:Nat} {s:St} (h:∀r y,Lf s r->at_ s r=some y->c9 o nb y) :
  (∀i,c9 o nb (get s.env i))/\∀ b cs,aO s.H b=some cs->∀(j:Nat) (c:AV),cs[j]?=some c->c9 o nb c:=by
 refine⟨fun i=>?_,fun b cs hb j c hc=>h (.c b j) c (fun i e=>by cases e) (by rw[Au hb]; exact hc)⟩;by_cases hx:∃cs,get s.env i=.agg cs
 ·obtain⟨cs,eM⟩:=hx;rw[eM];simp only[c9];exact hZ.2 fun j c hc=>h (.sc i j) c (fun i e=>by cases e) (by rw[L8 eM]; exact hc)
 ·exact h (.s i) _ (fun j e cs hc=>by cases e; exact hx ⟨cs,hc⟩) rfl
theorem fx.EH {X:Nat->Prop} {φ:dQ} {w:World} {N:Names} {s:St} {Ha:Heap} {t:Nat->Value} (h:fx X φ w N s Ha t) {r:Rt} {x:AV} (hx:at_ s r=some x):c9 (aD s) s.H.length x:=by
 cases r with
 |s i=>simp[at_] at hx; exact hx▸h.Ib i
 |sc i j=>
   simp only[at_] at hx;split at hx
   ·rename_i cs eM;have:=h.Ib i;rw[eM] at this;simp only[c9] at this;exact hZ.1 this j x hx
   ·cases hx
 |c b j=>
   simp only[at_] at hx;split at hx
   ·rename_i cs eM;obtain⟨as,_,_,h3⟩:=h.box b cs eM;exact (h3 j x hx).1
   ·cases hx
theorem Shape.back {s s':St} (h:Shape s s') {r:Rt} {y:AV} (hl:Lf s' r) (hy:at_ s' r=some y):Lf s r/\∃ x,at_ s r=some x:=by
 cases r with
 |s i=>
   refine⟨fun j e cs hc=>?_,_,rfl⟩;cases e;obtain⟨ds,h1,_⟩:=h.agg i cs hc;exact hl i rfl ds h1
 |sc i j=>
   refine⟨(fun j e=>by cases e),?_⟩;simp only[at_] at hy ⊢;split at hy
   ·rename_i ds px;by_cases hx:∃cs,get s.env i=.agg cs
    ·obtain⟨cs,eM⟩:=hx;obtain⟨es,h1,h2⟩:=h.agg i cs eM;rw[px] at h1; cases h1;rw[eM];exact bu (by have:=aC hy; omega)
    ·exact absurd px (h.WT i (fun cs e=>hx ⟨cs,e⟩) ds)
   ·cases hy
 |c b j=>
   refine⟨(fun j e=>by cases e),?_⟩;simp only[at_] at hy ⊢;split at hy
   ·rename_i ds px;cases hb:aO s.H b with
    |none=>rw[h.F5 b hb] at px; cases px
    |some cs=>
      obtain⟨es,h1,h2⟩:=h.box b cs hb;rw[px] at h1; cases h1;exact bu (by have:=aC hy; omega)
   ·cases hy
theorem fx.change {X:Nat->Prop} {φ:dQ} {w:World} {N N':Names} {s s':St} {Ha:Heap} {t:Nat->Value} (h:fx X φ w N s Ha t) (fy:N'.β=N.β) (hs:Shape s s')
  (hp:∀r x y,Lf s r->at_ s r=some x->at_ s' r=some y->c9 (aD s') s'.H.length y/\Le (kf N' r y) (kf N r x))
  (src:Rt->Rt) (ho:∀p k xs,aD s' p=some (k,xs)->∃ys,aD s (src p)=some (k,ys)/\N'.ν p=N.ν (src p)/\∃ m,xs=ys.take m)
  (hi:∀p q,(aD s' p).isSome->(aD s' q).isSome->src p=src q->p=q):fx X φ w N' s' Ha t:=by
 have so:∀{p},(aD s' p).isSome->(aD s (src p)).isSome/\N'.ν p=N.ν (src p):=by
  intro p hp;cases e:aD s' p with
  |none=>rw[e] at hp; cases hp
  |some y=>obtain⟨ys,h1,h2,_⟩:=ho p y.1 y.2 e; exact⟨by rw[h1]; rfl,h2⟩
 have sb:∀{b},(aO s'.H b).isSome->(aO s.H b).isSome:=by
  intro b hb;cases e:aO s.H b with
  |none=>rw[hs.F5 b e] at hb; cases hb
  |some _=>rfl
 obtain⟨hk,hkc⟩:=Kv (o:=aD s') (nb:=s'.H.length) (s:=s') fun r y hl hy=>by
  obtain⟨Pd,x,hx⟩:=hs.back hl hy;exact (hp r x y Pd hx hy).1
 refine⟨fun i=>?_,hk,h.heap,fun p k xs e=>?_,fun b cs' e=>?_,fun p q n h1 h2 e1 e2=>?_,fun b p h1 h2 e=>?_,fun b c h1 h2 e=>?_⟩
 ·refine aeG (fun cs eM=>?_) (fun hn=>⟨hs.WT i hn,?_⟩) _ _ _ (h.env i)
  ·obtain⟨ds,h1,h2⟩:=hs.agg i cs eM;refine⟨ds,h1,h2,fun j c d hc hd=>(hp (.sc i j) c d (fun i e=>by cases e) ?_ ?_).2⟩
   ·rw[L8 eM]; exact hc
   ·rw[L8 h1]; exact hd
  ·exact (hp (.s i) _ _ (fun j e=>by cases e; exact hn) rfl rfl).2
 ·obtain⟨ys,h1,h2,m,rfl⟩:=ho p k xs e;rw[h2];exact (h.own _ _ _ h1).take
 ·cases hb:aO s.H b with
  |none=>rw[hs.F5 b hb] at e; cases e
  |some cs=>
    obtain⟨ds,h1,h2⟩:=hs.box b cs hb;rw[e] at h1; cases h1;obtain⟨as,g1,g2,g3⟩:=h.box b cs hb;refine⟨as,by rw[fy]; exact g1,by omega,fun j c hc=>⟨hkc b cs' e j c hc,?_⟩⟩;obtain⟨d,hd⟩:=bu (l:=cs) (i:=j) (by have:=aC hc; omega);obtain⟨_,a,g4,g5⟩:=g3 j d hd;exact⟨a,g4,(hp (.c b j) d c (fun i e=>by cases e) (by rw[Au hb]; exact hd) (by rw[Au e]; exact hc)).2.trans g5⟩
 ·obtain⟨k1,k2⟩:=so h1;obtain⟨k3,k4⟩:=so h2;exact hi p q h1 h2 (h.inj _ _ n k1 k3 (by rw[<-k2]; exact e1) (by rw[<-k4]; exact e2))
 ·obtain⟨k1,k2⟩:=so h2;rw[k2,fy] at e;exact h.bx b _ (sb h1) k1 e
 ·rw[fy] at e;exact h.bi b c (sb h1) (sb h2) e

mutual
theorem Rh {N N':Names} {o o':Rt->Option (Nat × List AV)} {nb:Nat} {g:AV->AV} (fy:N'.β=N.β) (hg:kT g)
  (hl:∀k p a l,(c9 o nb (.eE k p a l)->c9 o' nb (g (.eE k p a l))/\Le (df N' (g (.eE k p a l))) (df N (.eE k p a l)))/\(c9 o nb (.fP k p a l)->c9 o' nb (g (.fP k p a l))/\Le (df N' (g (.fP k p a l))) (df N (.fP k p a l)))) :
  ∀ x,c9 o nb x->c9 o' nb (cZ g x)/\Le (df N' (cZ g x)) (df N x)
 |.eE k p a l,h=>by simp only[cZ]; exact (hl k p a l).1 h
 |.fP k p a l,h=>by simp only[cZ]; exact (hl k p a l).2 h
 |.agg cs,h=>by
   simp only[c9] at h;obtain⟨h1,h2,h3⟩:=z7 fy hg hl cs h;simp only[cZ,c9,df];exact⟨h1,Le.agg h2 h3⟩
 |.dJ cs,h=>by
   simp only[c9] at h;obtain⟨h1,h2,h3⟩:=z7 fy hg hl cs h;simp only[cZ,c9,df];refine⟨h1,fun R φ v r=>?_⟩;cases r with
   |dJ _ _ vs Lq hh2=>
     refine .dJ _ _ _ (h2.trans Lq) fun i c u hc hu=>?_;obtain⟨y,hy⟩:=bu (l:=m9 N cs) (i:=i) (by have:=aC hc; omega);exact h3 i c y hc hy _ _ _ (hh2 i y u hy hu)
 |.func f a b,h=>by
   simp only[c9] at h;obtain⟨h1,h2,h3⟩:=z7 fy hg hl a h.1;obtain⟨k1,k2,k3⟩:=z7 fy hg hl b h.2;simp only[cZ,c9,df];refine⟨⟨h1,k1⟩,fun R φ v r=>?_⟩;cases r with
   |func _ _ _ va _ vb HN HM ha hb=>
     refine .func _ _ _ _ _ _ (h2.trans HN) (k2.trans HM) (fun i c u hc hu=>?_) (fun i c u hc hu=>?_)
     ·obtain⟨y,hy⟩:=bu (l:=m9 N a) (i:=i) (by have:=aC hc; omega);exact h3 i c y hc hy _ _ _ (ha i y u hy hu)
     ·obtain⟨y,hy⟩:=bu (l:=m9 N b) (i:=i) (by have:=aC hc; omega);exact k3 i c y hc hy _ _ _ (hb i y u hy hu)
 |.any,h=>⟨h,Le.refl _⟩
 |.undef,h=>⟨h,Le.refl _⟩
 |.gq,h=>⟨h,Le.refl _⟩
 |.gz,h=>⟨h,Le.refl _⟩
 |.dO,h=>⟨h,Le.refl _⟩
 |.int _ _,h=>⟨h,Le.refl _⟩
 |.bool _,h=>⟨h,Le.refl _⟩
 |.str _,h=>⟨h,Le.refl _⟩
 |.list _ _,h=>⟨h,Le.refl _⟩
 |.dV _,h=>⟨h,Le.refl _⟩
 |.own _ _,h=>⟨h,Le.refl _⟩
 |.sl k b off len,h=>by simp only[cZ,df,fy]; exact⟨h,Le.refl _⟩
 |.ptr b off,h=>by simp only[cZ,df,fy]; exact⟨h,Le.refl _⟩
theorem z7 {N N':Names} {o o':Rt->Option (Nat × List AV)} {nb:Nat} {g:AV->AV} (fy:N'.β=N.β) (hg:kT g)
  (hl:∀k p a l,(c9 o nb (.eE k p a l)->c9 o' nb (g (.eE k p a l))/\Le (df N' (g (.eE k p a l))) (df N (.eE k p a l)))/\(c9 o nb (.fP k p a l)->c9 o' nb (g (.fP k p a l))/\Le (df N' (g (.fP k p a l))) (df N (.fP k p a l)))) :
  ∀ cs,lJ o nb cs->lJ o' nb (dq g cs)/\(m9 N' (dq g cs)).length=(m9 N cs).length/\∀ (i:Nat) (x y:AV),(m9 N' (dq g cs))[i]?=some x->(m9 N cs)[i]?=some y->Le x y
 |[],_=>⟨trivial,rfl,fun i x y h=>by simp[dq,m9] at h⟩
 |c::r,h=>by
   simp only[lJ] at h;obtain⟨h1,h2⟩:=Rh fy hg hl c h.1;obtain⟨k1,k2,k3⟩:=z7 fy hg hl r h.2;refine⟨⟨h1,k1⟩,by simp[dq,m9,k2],fun i x y hx hy=>?_⟩;cases i with
   |zero=>simp[dq,m9] at hx hy; subst hx hy; exact h2
   |succ i=>simp[dq,m9] at hx hy; exact k3 i x y hx hy
end
theorem nk {N N':Names} {o o':Rt->Option (Nat × List AV)} {nb:Nat} {g:AV->AV} (fy:N'.β=N.β) (hg:kT g)
  (hl:∀k p a l,(c9 o nb (.eE k p a l)->c9 o' nb (g (.eE k p a l))/\Le (df N' (g (.eE k p a l))) (df N (.eE k p a l)))/\(c9 o nb (.fP k p a l)->c9 o' nb (g (.fP k p a l))/\Le (df N' (g (.fP k p a l))) (df N (.fP k p a l))))
  {r:Rt} {x:AV} (hr:∀k xs,x=.own k xs->N'.ν r=N.ν r) (hx:c9 o nb x):c9 o' nb (cZ g x)/\Le (kf N' r (cZ g x)) (kf N r x):=by
 by_cases ho:∃k xs,x=.own k xs
 ·obtain⟨k,xs,rfl⟩:=ho;simp only[cZ,kf,tJ,hr k xs rfl];exact⟨trivial,Le.refl _⟩
 ·obtain⟨h1,h2⟩:=Rh fy hg hl x hx;refine⟨h1,?_⟩
  have e1:kf N' r (cZ g x)=df N' (cZ g x):=by
   have:∀k xs,cZ g x≠.own k xs:=fun k xs e=>ho ⟨k,xs,(zY hg x k xs).1 e⟩;generalize cZ g x=y at this;cases y<;>first|rfl|exact absurd rfl (this _ _)
  have e2:kf N r x=df N x:=by cases x<;>first|rfl|exact absurd ⟨_,_,rfl⟩ ho
  rw[e1,e2];exact h2
theorem Lf.map {g:AV->AV} (hg:kT g) {s:St} {r:Rt} (h:Lf s r):Lf (cE g s) r:=by
 intro i hi;simp only[cE,dT];exact nj hg (h i hi)
theorem K2 (p:Rt):kT (sw p):=by
 intro k q o l;simp only[sw];constructor<;>(split<;>exact⟨(fun cs e=>by cases e),(fun k xs e=>by cases e)⟩)
theorem aly (p q:Rt) (n:Nat):kT (rt p q n):=by
 intro k r o l;simp only[rt];constructor<;>(repeat' split)<;>exact⟨(fun cs e=>by cases e),(fun k xs e=>by cases e)⟩
theorem alA (p:Rt) (k:Nat) (xs:List AV):kT (fb p k xs):=by
 intro k r o l;simp only[fb];constructor<;>(repeat' split)<;>exact⟨(fun cs e=>by cases e),(fun k xs e=>by cases e)⟩
theorem alz (i d:Nat):kT (mvB i d):=by
 intro k r o l;simp only[mvB];exact⟨⟨(fun cs e=>by cases e),(fun k xs e=>by cases e)⟩,⟨(fun cs e=>by cases e),(fun k xs e=>by cases e)⟩⟩
theorem aaf (i b off:Nat):kT (fQ i b off):=by
 intro k r o l;simp only[fQ];exact⟨⟨(fun cs e=>by cases e),(fun k xs e=>by cases e)⟩,⟨(fun cs e=>by cases e),(fun k xs e=>by cases e)⟩⟩
theorem A5:kT iX:=by
 intro k r o l;cases r<;>exact⟨⟨(fun cs e=>by cases e),(fun k xs e=>by cases e)⟩,⟨(fun cs e=>by cases e),(fun k xs e=>by cases e)⟩⟩
theorem DM {g:AV->AV} (hg:kT g) {s:St} {p:Rt} {v x:AV} (hv:kK v) (hx:at_ s p=some x) (hn:kK x) {r:Rt} (hr:Lf s r) :
  at_ (setAt (cE g s) p v) r=if r=p then some v else (at_ s r).map (cZ g):=by
 rw[GK ⟨hv,cZ g x,by rw[ku hg,hx]; rfl,nj hg hn⟩ (hr.map hg),ku hg]
theorem uh {g:AV->AV} (hg:kT g) {s:St} {p:Rt} {v x:AV} (hv:kK v) (hx:at_ s p=some x) (hn:kK x):Shape s (setAt (cE g s) p v):=
 (Shape.map hg s).trans (Shape.set ⟨hv,cZ g x,by rw[ku hg,hx]; rfl,nj hg hn⟩)
theorem QO {s s':St} {p q:Rt} (h:at_ s' p=at_ s q):aD s' p=aD s q:=by unfold aD; rw[h]
theorem jc {s s':St} {p:Rt} (h:at_ s' p=at_ s p):aD s' p=aD s p:=by unfold aD; rw[h]
theorem vG {s:St} {q:Rt} (h:¬Lf s q):aD s q=none:=by
 cases e:aD s q with
 |none=>rfl
 |some y=>exact absurd (Ko (by rw[e]; rfl)) h
theorem Shape.nlf {s s':St} (h:Shape s s') {q:Rt} (hq:¬Lf s q):¬Lf s' q:=fun hl=>hq fun i hi cs hc=>by
 obtain⟨ds,h1,_⟩:=h.agg i cs hc;exact hl i hi ds h1
theorem AZ {s s':St} (kb:Shape s s') {f:Rt->Option (Nat × List AV)} (hf:∀q,Lf s q->aD s' q=f q) (hn:∀q,¬Lf s q->f q=none) (q:Rt):aD s' q=f q:=by
 by_cases hq:Lf s q
 ·exact hf q hq
 ·rw[hn q hq,vG (kb.nlf hq)]
theorem fx.drop {X:Nat->Prop} {φ:dQ} {w:World} {N:Names} {s:St} {Ha:Heap} {t:Nat->Value} (h:fx X φ w N s Ha t) {p:Rt} {k:Nat} {xs:List AV} (hp:aD s p=some (k,xs)) :
  fx X φ w N (setAt (cE (sw p) s) p .any) Ha t/\(∀q,aD (setAt (cE (sw p) s) p .any) q=if q=p then none else aD s q)/\Shape s (setAt (cE (sw p) s) p .any):=by
 have yQ:=cM.1 hp;have hn:kK (.own k xs):=fun cs e=>by cases e
 have hv:kK .any:=fun cs e=>by cases e
 have kb:=uh (K2 p) hv yQ hn;have key:∀{r},Lf s r->at_ (setAt (cE (sw p) s) p .any) r=if r=p then some .any else (at_ s r).map (cZ (sw p)):=fun hr=>DM (K2 p) hv yQ hn hr
 have own:∀q,aD (setAt (cE (sw p) s) p .any) q=if q=p then none else aD s q:=by
  refine AZ kb (fun q hq=>?_) (fun q hq=>?_)
  ·have e:=key hq;by_cases pZ:q=p
   ·subst pZ; rw[if_pos rfl] at e ⊢; unfold aD; rw[e]
   ·rw[if_neg pZ] at e ⊢;rw[<-jd (K2 p) s q];exact jc (by rw[e,ku (K2 p)])
  ·split
   ·rfl
   ·exact vG hq
 refine⟨h.change rfl kb (fun r x y hl hx hy=>?_) id (fun q k' ys e=>?_) (fun q r _ _ e=>e),own,kb⟩
 ·rw[key hl] at hy;by_cases Ii:r=p
  ·rw[if_pos Ii] at hy;cases hy;exact⟨trivial,Le.any _⟩
  ·rw[if_neg Ii,hx] at hy;simp at hy;subst hy;have:=nk (N:=N) (N':=N) (o:=aD s) (o':=aD (setAt (cE (sw p) s) p .any)) (nb:=s.H.length) rfl (K2 p) (fun k q a l=>?_) (r:=r) (x:=x) (fun _ _ _=>rfl) (h.EH hx)
   ·rw[kb.len]; exact this
   ·simp only[sw];refine⟨fun ho=>?_,fun ho=>?_⟩
    ·split
     ·exact⟨trivial,Le.any _⟩
     ·rename_i pZ;simp only[c9,own,if_neg pZ] at ho ⊢;exact⟨ho,Le.refl _⟩
    ·split
     ·exact⟨trivial,Le.any _⟩
     ·rename_i pZ;simp only[c9,own,if_neg pZ] at ho ⊢;exact⟨ho,Le.refl _⟩
 ·rw[own] at e;split at e
  ·cases e
  ·exact⟨ys,e,rfl,ys.length,by simp⟩
theorem fx.give {X:Nat->Prop} {φ:dQ} {w:World} {N:Names} {s:St} {Ha:Heap} {t:Nat->Value} (h:fx X φ w N s Ha t) {p q:Rt} {k k' len:Nat} {xs:List AV} (hp:aD s p=some (k,xs)) (hq:at_ s q=some (.eE k' p 0 len)) :
  ∃ N',N'.β=N.β/\fx X φ w N' (setAt (setAt (cE (rt p q len) s) p .any) q (.own k (xs.take len))) Ha t/\(∀r,aD (setAt (setAt (cE (rt p q len) s) p .any) q (.own k (xs.take len))) r=if r=q then some (k,xs.take len) else if r=p then none else aD s r) /\
   Shape s (setAt (setAt (cE (rt p q len) s) p .any) q (.own k (xs.take len))):=by
 have dG:=h.EH hq;simp only[c9,hp,ai,aP] at dG;obtain⟨_,⟨rfl,rfl⟩,hle⟩:=dG;have yQ:=cM.1 hp;have hn:kK (.own k xs):=fun cs e=>by cases e
 have hv:kK .any:=fun cs e=>by cases e
 have pZ:q≠p:=by rintro rfl; rw[yQ] at hq; cases hq
 have qn:aD s q=none:=by unfold aD; rw[hq]
 have hg:=aly p q len;have key1:∀{r},Lf s r->at_ (setAt (cE (rt p q len) s) p .any) r=if r=p then some .any else (at_ s r).map (cZ (rt p q len)):=fun hr=>DM hg hv yQ hn hr;have hsh1:Shape s (setAt (cE (rt p q len) s) p .any):=uh hg hv yQ hn;have hlq:Lf s q:=fun i hi cs hc=>by subst hi; simp[at_,hc] at hq
 have W5:at_ (setAt (cE (rt p q len) s) p .any) q=some (cZ (rt p q len) (.eE k p 0 len)):=by rw[key1 hlq,if_neg pZ,hq]; rfl
 have hn1:kK (cZ (rt p q len) (.eE k p 0 len)):=nj hg fun cs e=>by cases e
 have hv1:kK (.own k (xs.take len)):=fun cs e=>by cases e
 have hsh2:Shape s (setAt (setAt (cE (rt p q len) s) p .any) q (.own k (xs.take len))):=hsh1.trans (Shape.set ⟨hv1,_,W5,hn1⟩);have lf1:∀{r},Lf s r->Lf (setAt (cE (rt p q len) s) p .any) r:=fun hr i hi=>hsh1.WT i (hr i hi)
 have key:∀{r},Lf s r->at_ (setAt (setAt (cE (rt p q len) s) p .any) q (.own k (xs.take len))) r=if r=q then some (.own k (xs.take len)) else if r=p then some .any else (at_ s r).map (cZ (rt p q len)):=by
  intro r hr;rw[GK ⟨hv1,_,W5,hn1⟩ (lf1 hr),key1 hr]
 have own:∀r,aD (setAt (setAt (cE (rt p q len) s) p .any) q (.own k (xs.take len))) r=if r=q then some (k,xs.take len) else if r=p then none else aD s r:=by
  refine AZ hsh2 (fun r hr=>?_) (fun r hr=>?_)
  ·have e:=key hr;by_cases h1:r=q
   ·rw[if_pos h1] at e ⊢; exact cM.2 e
   ·rw[if_neg h1] at e ⊢;by_cases h2:r=p
    ·rw[if_pos h2] at e ⊢; unfold aD; rw[e]
    ·rw[if_neg h2] at e ⊢;rw[<-jd hg s r];exact jc (by rw[e,ku hg])
  ·rw[if_neg (by rintro rfl; exact hr hlq)];split
   ·rfl
   ·exact vG hr
 refine⟨⟨N.β,fun r=>if r=q then N.ν p else N.ν r⟩,rfl,h.change rfl hsh2 (fun r x y hl hx hy=>?_) (fun r=>if r=q then p else r) (fun r k' ys e=>?_) (fun r1 r2 e1 e2 e=>?_),own,hsh2⟩
 ·rw[key hl] at hy;by_cases h1:r=q
  ·rw[if_pos h1] at hy;subst h1;rw[hq] at hx;cases hx;cases hy;refine⟨trivial,?_⟩;have hlen:(xs.take len).length=len:=by rw[bF]; omega
   simp only[kf,df,tJ,if_true,hlen,qk];exact Le.refl _
  ·rw[if_neg h1] at hy;by_cases h2:r=p
   ·rw[if_pos h2] at hy;cases hy;exact⟨trivial,Le.any _⟩
   ·rw[if_neg h2,hx] at hy;simp at hy;subst hy;have:=nk (N:=N) (N':=⟨N.β,fun r=>if r=q then N.ν p else N.ν r⟩) (o:=aD s) (o':=aD (setAt (setAt (cE (rt p q len) s) p .any) q (.own k (xs.take len)))) (nb:=s.H.length) rfl hg (fun kk r' a l=>?_) (r:=r) (x:=x) (fun _ _ _=>by simp[h1]) (h.EH hx)
    ·rw[hsh2.len]; exact this
    ·simp only[rt];refine⟨fun ho=>?_,fun ho=>?_⟩
     ·split
      ·rename_i Ii;subst Ii;split
       ·rename_i hal;simp only[c9,hp,ai,aP] at ho;obtain⟨_,⟨rfl,rfl⟩,_⟩:=ho;refine⟨?_,?_⟩
        ·simp only[c9,own,if_true];exact⟨_,rfl,by rw[bF]; omega⟩
        ·simp only[df,if_true]; exact Le.refl _
       ·exact⟨trivial,Le.any _⟩
      ·rename_i Ii;simp only[c9] at ho ⊢;obtain⟨zs,hz,hz2⟩:=ho;have hrq:r'≠q:=by rintro rfl; rw[qn] at hz; cases hz
       refine⟨⟨zs,by rw[own,if_neg hrq,if_neg Ii]; exact hz,hz2⟩,?_⟩;simp only[df,if_neg hrq]; exact Le.refl _
     ·split
      ·rename_i Ii;subst Ii;split
       ·rename_i hal;simp only[c9,hp,ai,aP] at ho;obtain⟨_,⟨rfl,rfl⟩,_⟩:=ho;refine⟨?_,?_⟩
        ·simp only[c9,own,if_true];exact⟨_,rfl,by rw[bF]; omega⟩
        ·simp only[df,if_true]; exact Le.refl _
       ·exact⟨trivial,Le.any _⟩
      ·rename_i Ii;simp only[c9] at ho ⊢;obtain⟨zs,hz,hz2⟩:=ho;have hrq:r'≠q:=by rintro rfl; rw[qn] at hz; cases hz
       refine⟨⟨zs,by rw[own,if_neg hrq,if_neg Ii]; exact hz,hz2⟩,?_⟩;simp only[df,if_neg hrq]; exact Le.refl _
 ·rw[own] at e;by_cases h1:r=q
  ·rw[if_pos h1] at e;simp only[ai,aP] at e;obtain⟨rfl,rfl⟩:=e;exact⟨xs,by simp[h1,hp],by simp[h1],len,rfl⟩
  ·rw[if_neg h1] at e;by_cases h2:r=p
   ·rw[if_pos h2] at e; cases e
   ·rw[if_neg h2] at e;exact⟨ys,by simp[h1,e],by simp[h1],ys.length,by simp⟩
 ·have np:∀r,(aD (setAt (setAt (cE (rt p q len) s) p .any) q (.own k (xs.take len))) r).isSome->r≠p:=by
   intro r hr e;subst e;rw[own,if_neg (fM pZ),if_pos rfl] at hr;cases hr
  by_cases h1:r1=q<;>by_cases h2:r2=q
  ·rw[h1,h2]
  ·simp only[h1,h2,if_true,if_false] at e;exact absurd e.symm (np r2 e2)
  ·simp only[h1,h2,if_true,if_false] at e;exact absurd e (np r1 e1)
  ·simpa only[h1,h2,if_false] using e
end Go.Bm

/- What is owned becomes a value by value. -/
namespace Go.Bm
open Go.Am

theorem Fc {k:Nat}:∀{xs:List AV},(∀x∈xs,x.cells.length=k)->∀{i j:Nat} {x c:AV},xs[i]?=some x->x.cells[j]?=some c->(aI xs)[i*k+j]?=some c
 |[],_,i,j,x,c,h,_=>by simp at h
 |y::r,hk,i,j,x,c,h,hc=>by
   have hy:=hk y (by simp);cases i with
   |zero=>
     simp at h; subst h;simp only[aI,qk,ik];rw[aB (aC hc)];exact hc
   |succ i=>
     simp at h;have:=Fc (xs:=r) (fun z hz=>hk z (by simp[hz])) h hc;simp only[aI];rw[aR (by rw[hy,cT]; omega),hy,cT,show i*k+1*k+j-k=i*k+j by omega];exact this
mutual
theorem gG:∀x:AV,pl x=true->x.plain=true
 |.agg cs,h=>by simp only[pl] at h; simp only[AV.plain]; exact vC cs h
 |.dJ cs,h=>by simp only[pl] at h; simp only[AV.plain]; exact vC cs h
 |.func _ a b,h=>by simp only[pl,ae] at h; simp only[AV.plain,ae]; exact⟨vC a h.1,vC b h.2⟩
 |.any,_=>rfl
 |.undef,_=>rfl
 |.gq,_=>rfl
 |.gz,_=>rfl
 |.dO,_=>rfl
 |.int _ _,_=>rfl
 |.bool _,_=>rfl
 |.str _,_=>rfl
 |.list _ _,_=>rfl
 |.dV _,_=>rfl
 |.own _ _,h=>by simp[pl] at h
 |.eE _ _ _ _,h=>by simp[pl] at h
 |.fP _ _ _ _,h=>by simp[pl] at h
 |.ptr _ _,h=>by simp[pl] at h
 |.sl _ _ _ _,h=>by simp[pl] at h
theorem vC:∀cs:List AV,dP cs=true->uG cs=true
 |[],_=>rfl
 |x::r,h=>by simp only[dP,ae] at h; simp only[uG,ae]; exact⟨gG x h.1,vC r h.2⟩
end
theorem kD {c:AV} (h:fz c=true):pl c=true/\c.leaf=true:=by
 unfold fz at h;simp only[ae] at h;exact⟨h.2,h.1⟩
section
variable {X:Nat->Prop} {φ:dQ} {w:World} {Ha:Heap}
theorem sk (h:cK X φ w Ha) {n k:Nat} {xs:List AV} (ho:pd Ha (some n) k xs) :
  ∃ g sz,φ[n]?=some (some (g,sz))/\¬ X g/\∀ (i j:Nat) (x c:AV),xs[i]?=some x->x.cells[j]?=some c->∃u,w.cell? ⟨g,i*k+j,none⟩=some u/\fz c=true/\cB (Rd X φ w) [] c u:=by
 obtain⟨cs,h1,h2,h3,h4⟩:=ho;obtain⟨g,sz,arr,e,g1,g2,g3,g4,g5,g6⟩:=h.at h1;refine⟨g,sz,g1,g5,fun i j x c hx hc=>?_⟩;obtain⟨f1,a,f2,_,f3⟩:=h4 _ c (Fc h3 hx hc);obtain⟨u,u1,u2⟩:=g6 _ a f2;exact⟨u,by rw[gN g2]; exact u1,f1,(f3 _ _ _ u2).dY (gG _ (kD f1).1) []⟩
theorem acJ {n g sz:Nat} (h:cK X φ w Ha) (kV:φ[n]?=some (some (g,sz))) {o:Nat} {u:Value} (hX:¬X g) (hu:w.cell? ⟨g,o,none⟩=some u):Rd X (φ.set n none) w ⟨g,o,none⟩ u:=by
 refine⟨hX,fun⟨b,nF,hb⟩=>?_,hu⟩;rw[bg] at hb;split at hb
 ·split at hb<;>simp at hb
 ·rename_i kj;exact kj (h.inj n b g sz nF kV hb)
theorem acI (n:Nat):∀a u,Rd X φ w a u->Rd X (φ.set n none) w a u:=fun _ _ ⟨h1,h2,h3⟩=>⟨h1,fun h=>h2 (vF h),h3⟩
theorem DL (h:cK X φ w Ha) {n k:Nat} {xs:List AV} (ho:pd Ha (some n) k xs) {off len:Nat} (hle:off+len<=xs.length) {v:Value} (r:cB (Rd X φ w) φ (.sl k n (off*k) len) v) (ψ:dQ) :
  cB (Rd X (φ.set n none) w) ψ (.list k ((xs.drop off).take len)) v:=by
 obtain⟨g,sz,kV,hX,hc⟩:=sk h ho;cases r with
 |sl _ _ _ _ _ a cap hb je hh=>
   obtain⟨h1,h2⟩:=hh g sz kV;by_cases h0:len=0
   ·subst h0;simp only[List.take_zero];exact .oa _ _ _ _ _ _ (fun _ _=>undef) rfl je (fun x hx=>by simp at hx) (fun i j x c hx=>by simp at hx) (fun i j x c hx=>by simp at hx)
   ·have ha:=h1 (by omega);subst ha
    have hx:∀(i:Nat) (x:AV),((xs.drop off).take len)[i]?=some x->xs[off+i]?=some x/\i<len:=by
     intro i x hx;rw[bN] at hx;split at hx
     ·rw[br] at hx; exact⟨hx,‹_›⟩
     ·cases hx
    obtain⟨cs,q1,q2,hk,q4⟩:=ho;refine .oa _ _ _ _ _ _ (fun i j=>(w.cell? ⟨g,(off+i)*k+j,none⟩).getD undef) (by simp; omega) je (fun x hm=>?_) (fun i j x c hi hj=>?_) (fun i j x c hi hj=>?_)
    ·exact hk x (dB (dA hm))
    ·obtain⟨u,u1,_,_⟩:=hc _ j x c (hx i x hi).1 hj;rw[u1,Addr.jP,show off*k+(i*k+j)=(off+i)*k+j by rw[cT]; omega];exact acJ h kV hX u1
    ·obtain⟨u,u1,_,u3⟩:=hc _ j x c (hx i x hi).1 hj;rw[u1];exact u3.mono (acI n) (.refl _)
theorem ab5 (h:cK X φ w Ha) {n k:Nat} {xs:List AV} (ho:pd Ha (some n) k xs) {i o:Nat} {x:AV} (hx:xs[i]?=some x) {v:Value} (r:cB (Rd X φ w) φ (.ptr n (i*k+o)) v) (ψ:dQ) :
  cB (Rd X (φ.set n none) w) ψ (.dV (x.cells.drop o)) v:=by
 obtain⟨g,sz,kV,hX,hc⟩:=sk h ho;cases r with
 |ptr _ _ _ a hb hh=>
   have ha:=hh g sz kV;subst ha;refine .dV _ _ _ (fun j=>(w.cell? ⟨g,i*k+(o+j),none⟩).getD undef) (fun j c hj=>?_) (fun j c hj=>?_)
   ·rw[br] at hj;obtain⟨u,u1,_,_⟩:=hc i (o+j) x c hx hj;rw[u1,Addr.jP,show i*k+o+j=i*k+(o+j) by omega];exact acJ h kV hX u1
   ·rw[br] at hj;obtain⟨u,u1,_,u3⟩:=hc i (o+j) x c hx hj;rw[u1];exact u3.mono (acI n) (.refl _)
end
theorem agm {R R':Addr->Value->Prop} {φ φ':dQ} {N N':Names} {i:Nat} {x y:AV} (h1:∀cs,x=.agg cs->∃ds,y=.agg ds/\ds.length=cs.length/\∀ (j:Nat) (c d:AV),cs[j]?=some c->ds[j]?=some d->∀u,cB R φ (kf N (.sc i j) c) u->cB R' φ' (kf N' (.sc i j) d) u)
  (h2:kK x->kK y/\∀ v,cB R φ (kf N (.s i) x) v->cB R' φ' (kf N' (.s i) y) v) {v:Value} (hv:cB R φ (lK N i x) v):cB R' φ' (lK N' i y) v:=by
 by_cases hx:∃cs,x=.agg cs
 ·obtain⟨cs,rfl⟩:=hx;obtain⟨ds,rfl,hl,h⟩:=h1 cs rfl;simp only[lK] at hv ⊢;cases hv with
  |agg _ _ vs Lq hh=>
    rw[jo] at Lq;refine .agg _ _ _ (by rw[jo]; omega) fun j c u hc hu=>?_;rw[gV] at hc;simp only[ik] at hc;cases hd:ds[j]? with
    |none=>rw[hd] at hc; cases hc
    |some d=>
      rw[hd] at hc;simp at hc;subst hc;obtain⟨c,hc⟩:=bu (l:=cs) (i:=j) (by have:=aC hd; omega);exact h j c d hc hd u (hh j _ u (by rw[gV,hc]; simp) hu)
 ·have hn:kK x:=fun cs e=>hx ⟨cs,e⟩;obtain⟨hy,hle⟩:=h2 hn;have e1:lK N' i y=kf N' (.s i) y:=by cases y<;>first|rfl|exact absurd rfl (hy _)
  have e2:lK N i x=kf N (.s i) x:=by cases x<;>first|rfl|exact absurd rfl (hn _)
  rw[e2] at hv;rw[e1];exact hle v hv
mutual
theorem SQ {R R':Addr->Value->Prop} {φ φ':dQ} {N N':Names} {o o':Rt->Option (Nat × List AV)} {nb:Nat} {g:AV->AV} (hR:∀a u,R a u->R' a u) (kV:AB φ φ') (fy:N'.β=N.β)
  (hl:∀k p a l,(c9 o nb (.eE k p a l)->c9 o' nb (g (.eE k p a l))/\∀ v,cB R φ (df N (.eE k p a l)) v->cB R' φ' (df N' (g (.eE k p a l))) v)/\(c9 o nb (.fP k p a l)->c9 o' nb (g (.fP k p a l))/\∀ v,cB R φ (df N (.fP k p a l)) v->cB R' φ' (df N' (g (.fP k p a l))) v)) :
  ∀ x,c9 o nb x->c9 o' nb (cZ g x)/\∀ v,cB R φ (df N x) v->cB R' φ' (df N' (cZ g x)) v
 |.eE k p a l,h=>by simp only[cZ]; exact (hl k p a l).1 h
 |.fP k p a l,h=>by simp only[cZ]; exact (hl k p a l).2 h
 |.agg cs,h=>by
   simp only[c9] at h;obtain⟨h1,h3⟩:=u9 hR kV fy hl cs h;simp only[cZ,c9,df];refine⟨h1,fun v r=>?_⟩;cases r with
   |agg _ _ vs Lq hh2=>
     refine .agg _ _ _ (by simp only[eG,cW] at Lq ⊢; exact Lq) fun i c u hc hu=>?_;exact h3 i c u hc (fun y hy=>hh2 i y u hy hu)
 |.dJ cs,h=>by
   simp only[c9] at h;obtain⟨h1,h3⟩:=u9 hR kV fy hl cs h;simp only[cZ,c9,df];refine⟨h1,fun v r=>?_⟩;cases r with
   |dJ _ _ vs Lq hh2=>
     refine .dJ _ _ _ (by simp only[eG,cW] at Lq ⊢; exact Lq) fun i c u hc hu=>?_;exact h3 i c u hc (fun y hy=>hh2 i y u hy hu)
 |.func f a b,h=>by
   simp only[c9] at h;obtain⟨h1,h3⟩:=u9 hR kV fy hl a h.1;obtain⟨k1,k3⟩:=u9 hR kV fy hl b h.2;simp only[cZ,c9,df];refine⟨⟨h1,k1⟩,fun v r=>?_⟩;cases r with
   |func _ _ _ va _ vb HN HM ha hb=>
     refine .func _ _ _ _ _ _ (by simp only[eG,cW] at HN ⊢; exact HN) (by simp only[eG,cW] at HM ⊢; exact HM) (fun i c u hc hu=>?_) (fun i c u hc hu=>?_)
     ·exact h3 i c u hc (fun y hy=>ha i y u hy hu)
     ·exact k3 i c u hc (fun y hy=>hb i y u hy hu)
 |.any,h=>⟨h,fun v r=>r.mono hR kV⟩
 |.undef,h=>⟨h,fun v r=>r.mono hR kV⟩
 |.gq,h=>⟨h,fun v r=>r.mono hR kV⟩
 |.gz,h=>⟨h,fun v r=>r.mono hR kV⟩
 |.dO,h=>⟨h,fun v r=>r.mono hR kV⟩
 |.int _ _,h=>⟨h,fun v r=>r.mono hR kV⟩
 |.bool _,h=>⟨h,fun v r=>r.mono hR kV⟩
 |.str _,h=>⟨h,fun v r=>r.mono hR kV⟩
 |.list _ _,h=>⟨h,fun v r=>r.mono hR kV⟩
 |.dV _,h=>⟨h,fun v r=>r.mono hR kV⟩
 |.own _ _,h=>⟨h,fun v r=>r.mono hR kV⟩
 |.sl _ b _ _,h=>by simp only[cZ,df,fy]; exact⟨h,fun v r=>r.mono hR kV⟩
 |.ptr b off,h=>by simp only[cZ,df,fy]; exact⟨h,fun v r=>r.mono hR kV⟩
theorem u9 {R R':Addr->Value->Prop} {φ φ':dQ} {N N':Names} {o o':Rt->Option (Nat × List AV)} {nb:Nat} {g:AV->AV} (hR:∀a u,R a u->R' a u) (kV:AB φ φ') (fy:N'.β=N.β)
  (hl:∀k p a l,(c9 o nb (.eE k p a l)->c9 o' nb (g (.eE k p a l))/\∀ v,cB R φ (df N (.eE k p a l)) v->cB R' φ' (df N' (g (.eE k p a l))) v)/\(c9 o nb (.fP k p a l)->c9 o' nb (g (.fP k p a l))/\∀ v,cB R φ (df N (.fP k p a l)) v->cB R' φ' (df N' (g (.fP k p a l))) v)) :
  ∀ cs,lJ o nb cs->lJ o' nb (dq g cs)/\∀ (i:Nat) (x:AV) (u:Value),(m9 N' (dq g cs))[i]?=some x->(∀y,(m9 N cs)[i]?=some y->cB R φ y u)->cB R' φ' x u
 |[],_=>⟨trivial,fun i x u h=>by simp[dq,m9] at h⟩
 |c::r,h=>by
   simp only[lJ] at h;obtain⟨h1,h2⟩:=SQ hR kV fy hl c h.1;obtain⟨k1,k3⟩:=u9 hR kV fy hl r h.2;refine⟨⟨h1,k1⟩,fun i x u hx hy=>?_⟩;cases i with
   |zero=>simp[dq,m9] at hx hy; subst hx; exact h2 u hy
   |succ i=>simp[dq,m9] at hx hy; exact k3 i x u hx hy
end
theorem An (L:Nat) (G:Nat->XT):∃H:Heap,H.length=L/\∀ m,m<L->H[m]?=some (G m):=
 ⟨(List.range L).map G,by simp,fun m hm=>by simp[hm]⟩
theorem PW {N N':Names} {g:AV->AV} (hg:kT g) {r:Rt} {x:AV} (ho:NOwn x):kf N r x=df N x/\kf N' r (cZ g x)=df N' (cZ g x):=by
 constructor
 ·cases x<;>first|rfl|exact absurd rfl (ho _ _)
 ·have:∀k xs,cZ g x≠.own k xs:=fun k xs e=>ho k xs ((zY hg x k xs).1 e);generalize cZ g x=y at this;cases y<;>first|rfl|exact absurd rfl (this _ _)
theorem fx.GB {X:Nat->Prop} {φ:dQ} {w:World} {N:Names} {s:St} {Ha:Heap} {t:Nat->Value} (h:fx X φ w N s Ha t) (p:Rt) :
  ∃ φ' Ha',fx X φ' w N (LB s p) Ha' t/\fU φ w φ' w/\(∀q,aD (LB s p) q=if q=p then none else aD s q)/\Shape s (LB s p):=by
 unfold LB;cases hp:aD s p with
 |none=>
   refine⟨φ,Ha,h,.refl _ _,fun q=>?_,.refl _⟩;by_cases e:q=p
   ·rw[if_pos e,e]; exact hp
   ·rw[if_neg e]
 |some y=>
   obtain⟨k,xs⟩:=y;simp only;have yQ:=cM.1 hp;have hn:kK (.own k xs):=fun cs e=>by cases e
   have hv:kK (.list k xs):=fun cs e=>by cases e
   have hg:=alA p k xs;have kb:=uh hg hv yQ hn;generalize UO:setAt (cE (fb p k xs) s) p (.list k xs)=s' at kb ⊢;have key:∀{r},Lf s r->at_ s' r=if r=p then some (.list k xs) else (at_ s r).map (cZ (fb p k xs)):=fun hr=>by rw[<-UO]; exact DM hg hv yQ hn hr
   have own:∀q,aD s' q=if q=p then none else aD s q:=by
    refine AZ kb (fun q hq=>?_) (fun q hq=>?_)
    ·have e:=key hq;by_cases pZ:q=p
     ·subst pZ; rw[if_pos rfl] at e ⊢; unfold aD; rw[e]
     ·rw[if_neg pZ] at e ⊢;rw[<-jd hg s q];exact jc (by rw[e,ku hg])
    ·split
     ·rfl
     ·exact vG hq
   have fc:=h.own p k xs hp;cases kW:N.ν p with
   |none=>
     rw[kW] at fc;have fc:xs=[]:=fc;subst fc;refine⟨φ,Ha,h.change rfl kb (fun r x y hl hx hy=>?_) id (fun q k' ys e=>?_) (fun q r _ _ e=>e),.refl _ _,own,kb⟩
     ·rw[key hl] at hy;by_cases Ii:r=p
      ·rw[if_pos Ii] at hy;subst Ii;rw[yQ] at hx;cases hx; cases hy;refine⟨trivial,?_⟩;simp only[kf,df,tJ,kW];exact Le.eV k
      ·rw[if_neg Ii,hx] at hy;simp at hy;subst hy;have:=nk (N:=N) (N':=N) (o:=aD s) (o':=aD s') (nb:=s.H.length) rfl hg (fun k' q a l=>?_) (r:=r) (x:=x) (fun _ _ _=>rfl) (h.EH hx)
       ·rw[kb.len]; exact this
       ·simp only[fb];refine⟨fun ho=>?_,fun ho=>?_⟩
        ·by_cases pZ:q=p
         ·rw[if_pos pZ];subst pZ;simp only[c9,hp,ai,aP] at ho;obtain⟨_,⟨rfl,rfl⟩,hle⟩:=ho;rw[if_pos ⟨rfl,hle⟩];refine⟨trivial,?_⟩;simp only[df,kW,List.drop_nil,List.take_nil];exact Le.eV k
         ·rw[if_neg pZ];simp only[c9,own,if_neg pZ] at ho ⊢;exact⟨ho,Le.refl _⟩
        ·by_cases pZ:q=p
         ·subst pZ;simp only[c9,hp,ai,aP] at ho;obtain⟨_,⟨rfl,rfl⟩,hle⟩:=ho;simp at hle
         ·rw[if_neg pZ];simp only[c9,own,if_neg pZ] at ho ⊢;exact⟨ho,Le.refl _⟩
     ·rw[own] at e;split at e
      ·cases e
      ·exact⟨ys,e,rfl,ys.length,by simp⟩
   |some n=>
     rw[kW] at fc;obtain⟨_,xf⟩:=h.heap.UB n;have hr2:∀a u,Rd X φ w a u->Rd X (φ.set n none) w a u:=xf.rd
     have conv:∀r x y,Lf s r->at_ s r=some x->at_ s' r=some y->c9 (aD s') s'.H.length y/\∀ v,cB (Rd X φ w) φ (kf N r x) v->cB (Rd X (φ.set n none) w) (φ.set n none) (kf N r y) v:=by
      intro r x y hl hx hy;rw[key hl] at hy;by_cases Ii:r=p
      ·rw[if_pos Ii] at hy;subst Ii;rw[yQ] at hx;cases hx; cases hy;refine⟨trivial,fun v hv=>?_⟩;simp only[kf,df,tJ,kW] at hv ⊢;have:=DL h.heap fc (off:=0) (len:=xs.length) (by omega) (by simpa using hv) (φ.set n none);simpa using this
      ·rw[if_neg Ii,hx] at hy;simp at hy;subst hy
       have hbl:=SQ (R:=Rd X φ w) (R':=Rd X (φ.set n none) w) (φ:=φ) (φ':=φ.set n none) (N:=N) (N':=N) (o:=aD s) (o':=aD s') (nb:=s.H.length) (g:=fb p k xs) hr2 xf.ZA rfl (fun k' q a l=>by
        simp only[fb];refine⟨fun ho=>?_,fun ho=>?_⟩
        ·by_cases pZ:q=p
         ·rw[if_pos pZ];subst pZ;simp only[c9,hp,ai,aP] at ho;obtain⟨_,⟨rfl,rfl⟩,hle⟩:=ho;rw[if_pos ⟨rfl,hle⟩];refine⟨trivial,fun v hv=>?_⟩;simp only[df,kW] at hv ⊢;exact DL h.heap fc hle hv _
         ·rw[if_neg pZ];simp only[c9,own,if_neg pZ] at ho ⊢;exact⟨ho,fun v hv=>hv.mono hr2 xf.ZA⟩
        ·by_cases pZ:q=p
         ·rw[if_pos pZ];subst pZ;simp only[c9,hp,ai,aP] at ho;obtain⟨_,⟨rfl,rfl⟩,hle⟩:=ho;rw[if_pos rfl];obtain⟨x,hx⟩:=bu hle;rw[hx];refine⟨trivial,fun v hv=>?_⟩;simp only[df,kW] at hv ⊢;exact ab5 h.heap fc hx hv _
         ·rw[if_neg pZ];simp only[c9,own,if_neg pZ] at ho ⊢;exact⟨ho,fun v hv=>hv.mono hr2 xf.ZA⟩) x (h.EH hx)
       refine⟨by rw[kb.len]; exact hbl.1,fun v hv=>?_⟩;by_cases hxo:∃k' ys,x=.own k' ys
       ·obtain⟨k',ys,rfl⟩:=hxo;simp only[cZ,kf,tJ] at hv ⊢;exact hv.mono hr2 xf.ZA
       ·obtain⟨e1,e2⟩:=PW (N:=N) (N':=N) hg (r:=r) (x:=x) (fun k ys e=>hxo ⟨k,ys,e⟩);rw[e1] at hv;rw[e2];exact hbl.2 v hv
     obtain⟨hk,hkc⟩:=Kv (o:=aD s') (nb:=s'.H.length) (s:=s') fun r y hl hy=>by
      obtain⟨Pd,x,hx⟩:=kb.back hl hy;exact (conv r x y Pd hx hy).1
     have sb:∀{b},(aO s'.H b).isSome->(aO s.H b).isSome:=by
      intro b hb;cases e:aO s.H b with
      |none=>rw[kb.F5 b e] at hb; cases hb
      |some _=>rfl
     have so:∀{q},(aD s' q).isSome->(aD s q).isSome/\q≠p:=by
      intro q hq;rw[own] at hq;by_cases e:q=p
      ·rw[if_pos e] at hq; cases hq
      ·rw[if_neg e] at hq; exact⟨hq,e⟩
     classical
     obtain⟨Ha',hL,hG⟩:=An Ha.length (fun m=>if m=n then none else if hb:∃z:Nat × List AV,aO s'.H z.1=some z.2/\N.β z.1=m then some (Wf N (.c hb.choose.1) 0 hb.choose.2) else (Ha[m]?).getD none)
     have hbox:∀b cs,aO s'.H b=some cs->aO Ha' (N.β b)=some (Wf N (.c b) 0 cs):=by
      intro b cs hb;obtain⟨cs0,Im⟩:=aV.1 (sb (by rw[hb]; rfl:(aO s'.H b).isSome));obtain⟨as,g1,_⟩:=h.box b cs0 Im;rw[r9,hG _ (eI g1)];have kj:N.β b≠n:=fun e=>h.bx b p (by rw[Im]; rfl) (by rw[hp]; rfl) (by rw[kW,e]);have hex:∃z:Nat × List AV,aO s'.H z.1=some z.2/\N.β z.1=N.β b:=⟨(b,cs),hb,rfl⟩;rw[if_neg kj,dif_pos hex];have e1:hex.choose.1=b:=h.bi _ _ (sb (by rw[hex.choose_spec.1]; rfl)) (by rw[Im]; rfl) hex.choose_spec.2
      have e2:hex.choose.2=cs:=by
       have:=hex.choose_spec.1;rw[e1,hb] at this;exact (dv this).symm
      rw[e2,e1]
     have Gt:∀m,m≠n->(¬∃z:Nat × List AV,aO s'.H z.1=some z.2/\N.β z.1=m)->Ha'[m]?=Ha[m]?:=by
      intro m hm IM;by_cases bD:m<Ha.length
      ·rw[hG m bD,if_neg hm,dif_neg IM];obtain⟨x,hx⟩:=bu bD;rw[hx]; rfl
      ·rw[fj (by omega),fj (by omega)]
     refine⟨φ.set n none,Ha',⟨fun i=>?_,hk,⟨?_,h.heap.FC,fun m cs hm=>?_,fun m hm=>?_,fun m m' g sz nF e1 e2=>?_⟩,fun q k' ys e=>?_,fun b cs e=>?_,fun q r m e1 e2 e3 e4=>?_,fun b q e1 e2 e3=>?_,fun b c e1 e2 e3=>?_⟩,xf,own,kb⟩
     ·refine agm (fun cs eM=>?_) (fun hnn=>⟨kb.WT i hnn,?_⟩) (h.env i)
      ·obtain⟨ds,h1,h2⟩:=kb.agg i cs eM;refine⟨ds,h1,h2,fun j c d hc hd=>(conv (.sc i j) c d (fun i e=>by cases e) ?_ ?_).2⟩
       ·rw[L8 eM]; exact hc
       ·rw[L8 h1]; exact hd
      ·exact (conv (.s i) _ _ (fun j e=>by cases e; exact hnn) rfl rfl).2
     ·rw[List.length_set,h.heap.len,hL]
     ·have bD:=aC hm;rw[hL] at bD;by_cases FE:m=n
      ·rw[hG m bD,if_pos FE] at hm; cases hm
      ·by_cases IM:∃z:Nat × List AV,aO s'.H z.1=some z.2/\N.β z.1=m
       ·obtain⟨⟨b,ds⟩,hb,rfl⟩:=IM;simp only at hb hm FE;have:=hbox b ds hb;rw[r9,hm] at this;cases this;obtain⟨cs0,Im⟩:=aV.1 (sb (by rw[hb]; rfl:(aO s'.H b).isSome));obtain⟨as,g1,g2,g3⟩:=h.box b cs0 Im;obtain⟨g,sz,arr,e,f1,f2,f3,f4,f5,f6⟩:=h.heap.at g1;obtain⟨ds',q1,q2⟩:=kb.box b cs0 Im;rw[hb] at q1; cases q1;refine⟨g,sz,arr,e,?_,f2,f3,by rw[jo]; omega,f5,fun i c hc=>?_⟩
        ·rw[bT (fM FE)]; exact f1
        ·rw[gV] at hc;simp only[ik] at hc;cases hd:ds[i]? with
         |none=>rw[hd] at hc; cases hc
         |some d=>
           rw[hd] at hc;simp at hc;subst hc;obtain⟨c0,Ls⟩:=bu (l:=cs0) (i:=i) (by have:=aC hd; omega);obtain⟨_,a,a1,a2⟩:=g3 i c0 Ls;obtain⟨u,u1,u2⟩:=f6 i a a1;exact⟨u,u1,(conv (.c b i) c0 d (fun i e=>by cases e) (by rw[Au Im]; exact Ls) (by rw[Au hb]; exact hd)).2 u (a2 _ _ _ u2)⟩
       ·rw[Gt m FE IM] at hm;obtain⟨g,sz,arr,e,f1,f2,f3,f4,f5,f6⟩:=h.heap.live m cs hm;refine⟨g,sz,arr,e,?_,f2,f3,f4,f5,fun i c hc=>?_⟩
        ·rw[bT (fM FE)]; exact f1
        ·obtain⟨u,u1,u2⟩:=f6 i c hc;exact⟨u,u1,u2.mono hr2 xf.ZA⟩
     ·by_cases FE:m=n
      ·subst FE;have bD:=aC hm;rw[List.getElem?_set_self (by rw[h.heap.len]; omega)]
      ·rw[bT (fM FE)];by_cases IM:∃z:Nat × List AV,aO s'.H z.1=some z.2/\N.β z.1=m
       ·obtain⟨⟨b,ds⟩,hb,rfl⟩:=IM;simp only at hb hm FE;have:=hbox b ds hb;rw[r9,hm] at this;cases this
       ·rw[Gt m FE IM] at hm;exact h.heap.dead m hm
     ·have sub:∀m g sz:Nat,(φ.set n none)[m]?=some (some (g,sz))->φ[m]?=some (some (g,sz)):=by
       intro m g sz e;rw[bg] at e;split at e
       ·split at e<;>simp at e
       ·exact e
      exact h.heap.inj m m' g sz nF (sub _ _ _ e1) (sub _ _ _ e2)
     ·have hq:=own q;rw[e] at hq;by_cases pZ:q=p
      ·rw[if_pos pZ] at hq; cases hq
      ·rw[if_neg pZ] at hq;have ho:=h.own q k' ys hq.symm;cases hνq:N.ν q with
       |none=>rw[hνq] at ho; exact ho
       |some m=>
         rw[hνq] at ho;obtain⟨cs,c1,c2⟩:=ho
         have FE:m≠n:=by
          intro e; subst e;exact pZ (h.inj q p m (by rw[<-hq]; rfl) (by rw[hp]; rfl) hνq kW)
         refine⟨cs,?_,c2⟩;rw[r9,Gt m FE ?_]
         ·exact vZ c1
         ·rintro⟨⟨b,ds⟩,hb,rfl⟩;exact h.bx b q (sb (by rw[hb]; rfl)) (by rw[<-hq]; rfl) hνq
     ·refine⟨_,hbox b cs e,jo _ _ _ _,fun j c hc=>⟨hkc b cs e j c hc,_,by rw[gV,hc]; simp,Le.refl _⟩⟩
     ·exact h.inj q r m (so e1).1 (so e2).1 e3 e4
     ·exact h.bx b q (sb e1) (so e2).1 e3
     ·exact h.bi b c (sb e1) (sb e2) e3
end Go.Bm

/- Owners that go, values that go to their slots, the end of a region. -/
namespace Go.Bm
open Go.Am

def SB (X:Nat->Prop) (φ:dQ) (w:World) (B:Nat->Nat) (base:Nat) (s:St) (t:Nat->Value):Prop:=∃N Ha,fx X φ w N s Ha t/\(∀b,b<base->N.β b=B b)/\base<=s.H.length
section
variable {X:Nat->Prop} {φ:dQ} {w:World} {N:Names} {s s':St} {Ha:Heap} {t:Nat->Value} {B:Nat->Nat} {base:Nat}

theorem SB.GB (h:SB X φ w B base s t) (p:Rt):∃φ',SB X φ' w B base (LB s p) t/\fU φ w φ' w:=by
 obtain⟨N,Ha,h,hb,hl⟩:=h;obtain⟨φ',Ha',h1,h2,_,h3⟩:=h.GB p;exact⟨φ',⟨N,Ha',h1,hb,by rw[h3.len]; exact hl⟩,h2⟩
theorem SB.eO:∀(ps:List Rt) {φ:dQ} {s:St},SB X φ w B base s t->∃φ',SB X φ' w B base (eO ps s) t/\fU φ w φ' w
 |[],φ,s,h=>⟨φ,h,.refl _ _⟩
 |p::r,φ,s,h=>by
   obtain⟨kX,h1,a1⟩:=h.GB p;obtain⟨mW,h2,a2⟩:=SB.eO r h1;exact⟨mW,h2,a1.trans a2⟩
theorem SB.rel (h:SB X φ w B base s t) (p:Rt):∃φ',SB X φ' w B base (rel s p) t/\fU φ w φ' w:=by
 unfold Go.Bm.rel;split
 ·exact⟨φ,h,.refl _ _⟩
 ·rename_i k xs hp;split
  ·obtain⟨N,Ha,h,hb,hl⟩:=h;exact⟨φ,⟨N,Ha,(h.drop hp).1,hb,by rw[(h.drop hp).2.2.len]; exact hl⟩,.refl _ _⟩
  ·rename_i q hq;split
   ·rename_i k' r len yQ;split
    ·rename_i hr;subst hr;obtain⟨N,Ha,h,hb,hl⟩:=h;obtain⟨N',e,h',_,h3⟩:=h.give hp yQ;exact⟨φ,⟨N',Ha,h',fun b bD=>by rw[e]; exact hb b bD,by rw[h3.len]; exact hl⟩,.refl _ _⟩
    ·exact h.GB p
   ·exact h.GB p
theorem SB.Mz (i:Nat):∀(cs:List AV) (j:Nat) {φ:dQ} {s:St},SB X φ w B base s t->∃φ',SB X φ' w B base (Mz i j cs s) t/\fU φ w φ' w
 |[],j,φ,s,h=>⟨φ,h,.refl _ _⟩
 |x::r,j,φ,s,h=>by
   have skip:∃φ',SB X φ' w B base (Go.Bm.Mz i (j+1) r s) t/\fU φ w φ' w:=SB.Mz i r (j+1) h
   cases x<;>first
    |exact skip
    | (obtain ⟨kX, h1, a1⟩ := h.rel (.sc i j)
       obtain⟨mW,h2,a2⟩:=SB.Mz i r (j+1) h1;exact⟨mW,h2,a1.trans a2⟩)
theorem SB.Fj (h:SB X φ w B base s t) (i:Nat):∃φ',SB X φ' w B base (Fj s i) t/\fU φ w φ' w:=by
 unfold Go.Bm.Fj;split
 ·exact h.rel _
 ·exact SB.Mz i _ 0 h
 ·exact⟨φ,h,.refl _ _⟩
theorem SB.pz (keep:List Nat):∀(e:Env) {φ:dQ} {s:St},SB X φ w B base s t->∃φ',SB X φ' w B base (pz keep e s) t/\fU φ w φ' w
 |[],φ,s,h=>⟨φ,h,.refl _ _⟩
 |(i,v)::r,φ,s,h=>by
   simp only[Go.Bm.pz];split
   ·exact SB.pz keep r h
   ·obtain⟨kX,h1,a1⟩:=h.Fj i;obtain⟨mW,h2,a2⟩:=SB.pz keep r h1;exact⟨mW,h2,a1.trans a2⟩
theorem SB.kG (b:Nat):∀(n j:Nat) {φ:dQ} {s:St},SB X φ w B base s t->∃φ',SB X φ' w B base (kG b j n s) t/\fU φ w φ' w
 |0,j,φ,s,h=>⟨φ,h,.refl _ _⟩
 |n+1,j,φ,s,h=>by
   simp only[Go.Bm.kG];split
   ·obtain⟨kX,h1,a1⟩:=h.rel (.c b j);obtain⟨mW,h2,a2⟩:=SB.kG b n (j+1) h1;exact⟨mW,h2,a1.trans a2⟩
   ·exact SB.kG b n (j+1) h

theorem amd (he:∀i,get s'.env i=get s.env i) (hH:s'.H=s.H):at_ s'=at_ s:=by
 funext p;cases p<;>simp only[at_,he,hH]
theorem OG (he:∀i,get s'.env i=get s.env i) (hH:s'.H=s.H):aD s'=aD s:=by
 funext p;unfold aD;rw[amd he hH]
theorem fx.ext (h:fx X φ w N s Ha t) (he:∀i,get s'.env i=get s.env i) (hH:s'.H=s.H):fx X φ w N s' Ha t:=by
 have ho:=OG he hH;exact⟨fun i=>by rw[he]; exact h.env i,fun i=>by rw[he,ho,hH]; exact h.Ib i,h.heap,by rw[ho]; exact h.own,by rw[ho,hH]; exact h.box,by rw[ho]; exact h.inj,by rw[ho,hH]; exact h.bx,by rw[hH]; exact h.bi⟩
theorem eH {i:Nat} (h:bX (get s.env i)=false):aD s (.s i)=none/\∀ j,aD s (.sc i j)=none:=by
 have hl:∀(cs:List AV),bZ cs=false->∀(j:Nat) (k:Nat) (xs:List AV),cs[j]?≠some (.own k xs):=by
  intro cs
  induction cs with
  |nil=>intro _ j k xs e; simp at e
  |cons x r ih=>
    intro h j k xs e;cases j with
    |zero=>simp at e; subst e; simp[bZ] at h
    |succ j=>
      simp at e;refine ih ?_ j k xs e;cases x<;>simp[bZ] at h<;>exact h
 refine⟨?_,fun j=>?_⟩
 ·cases e:aD s (.s i) with
  |none=>rfl
  |some y=>
    have e':=cM.1 (show aD s (.s i)=some (y.1,y.2) from e);simp only[at_,ai] at e';rw[e'] at h;simp[bX] at h
 ·cases e:aD s (.sc i j) with
  |none=>rfl
  |some y=>
    have e':=cM.1 (show aD s (.sc i j)=some (y.1,y.2) from e);simp only[at_] at e';split at e'
    ·rename_i cs eM;rw[eM] at h;simp only[bX] at h;exact absurd e' (hl cs h j _ _)
    ·cases e'
theorem fx.keep (h:fx X φ w N s Ha t) (he:∀i,get s'.env i=get s.env i\/(get s'.env i=.any/\bX (get s.env i)=false)) (hH:s'.H=s.H):fx X φ w N s' Ha t:=by
 have ho:aD s'=aD s:=by
  funext p;cases p with
  |s i=>
    rcases he i with e|⟨e1,e2⟩
    ·unfold aD; simp only[at_,e]
    ·rw[(eH e2).1]; unfold aD; simp only[at_,e1]
  |sc i j=>
    rcases he i with e|⟨e1,e2⟩
    ·unfold aD; simp only[at_,e]
    ·rw[(eH e2).2 j]; unfold aD; simp only[at_,e1]
  |c b j=>unfold aD; simp only[at_,hH]
 refine⟨fun i=>?_,fun i=>?_,h.heap,by rw[ho]; exact h.own,by rw[ho,hH]; exact h.box,by rw[ho]; exact h.inj,by rw[ho,hH]; exact h.bx,by rw[hH]; exact h.bi⟩
 ·rcases he i with e|⟨e1,e2⟩
  ·rw[e]; exact h.env i
  ·rw[e1]; exact .any _ _
 ·rcases he i with e|⟨e1,e2⟩
  ·rw[e,ho,hH]; exact h.Ib i
  ·rw[e1]; trivial
mutual
theorem QR {o o':Rt->Option (Nat × List AV)} {n:Nat} (ho:∀p,(∀j,p≠.c n j)->o' p=o p):∀x,c9 o (n+1) x->kM n x=true->c9 o' n x
 |.eE k p off len,h,hp=>by
   simp only[c9] at h ⊢;rw[ho p]
   ·exact h
   ·rintro j rfl; simp[kM] at hp
 |.fP k p i off,h,hp=>by
   simp only[c9] at h ⊢;rw[ho p]
   ·exact h
   ·rintro j rfl; simp[kM] at hp
 |.ptr b off,h,hp=>by simp only[c9] at h ⊢; simp[kM] at hp; omega
 |.agg cs,h,hp=>by simp only[c9,kM] at h hp ⊢; exact zS ho cs h hp
 |.dJ cs,h,hp=>by simp only[c9,kM] at h hp ⊢; exact zS ho cs h hp
 |.func f a b,h,hp=>by simp only[c9,kM,ae] at h hp ⊢; exact⟨zS ho a h.1 hp.1,zS ho b h.2 hp.2⟩
 |.any,_,_=>trivial
 |.undef,_,_=>trivial
 |.gq,_,_=>trivial
 |.gz,_,_=>trivial
 |.dO,_,_=>trivial
 |.int _ _,_,_=>trivial
 |.bool _,_,_=>trivial
 |.str _,_,_=>trivial
 |.list _ _,_,_=>trivial
 |.dV _,_,_=>trivial
 |.own _ _,_,_=>trivial
 |.sl _ b _ _,h,hp=>by simp only[c9] at h ⊢; simp[kM] at hp; omega
theorem zS {o o':Rt->Option (Nat × List AV)} {n:Nat} (ho:∀p,(∀j,p≠.c n j)->o' p=o p):∀cs,lJ o (n+1) cs->iB n cs=true->lJ o' n cs
 |[],_,_=>trivial
 |x::r,h,hp=>by simp only[lJ,iB,ae] at h hp ⊢; exact⟨QR ho x h.1 hp.1,zS ho r h.2 hp.2⟩
end
theorem KE {n:Nat}:∀{e:Env},lM n e=true->∀i,kM n (get e i)=true
 |[],_,i=>rfl
 |(j,v)::r,h,i=>by
   simp only[lM,ae] at h;simp only[Am.get];split
   ·exact h.1
   ·exact KE h.2 i
theorem Dn {n:Nat}:∀{H:Heap},kB n H=true->∀b cs,aO H b=some cs->iB n cs=true
 |[],_,b,cs,hb=>by simp[aO] at hb
 |none::r,h,b,cs,hb=>by
   simp only[kB] at h;cases b with
   |zero=>simp[aO] at hb
   |succ b=>exact Dn h b cs (by simpa[aO] using hb)
 |some ds::r,h,b,cs,hb=>by
   simp only[kB,ae] at h;cases b with
   |zero=>simp[aO] at hb; subst hb; exact h.1
   |succ b=>exact Dn h.2 b cs (by simpa[aO] using hb)
theorem KD {n:Nat}:∀{cs:List AV},iB n cs=true->∀(j:Nat) (c:AV),cs[j]?=some c->kM n c=true
 |[],_,j,c,h=>by simp at h
 |x::r,hp,j,c,h=>by
   simp only[iB,ae] at hp;cases j with
   |zero=>simp at h; subst h; exact hp.1
   |succ j=>exact KD hp.2 j c (by simpa using h)
theorem tx {H:Heap} {n b:Nat}:aO (H.take n) b=if b<n then aO H b else none:=by
 unfold aO;rw[bN];by_cases h:b<n<;>simp[h]
theorem fx.amk {env:Env} {H:Heap} {n:Nat} (h:fx X φ w N ⟨env,H⟩ Ha t) (hl:H.length=n+1) (he:lM n env=true) (hH:kB n (H.take n)=true):fx X φ w N ⟨env,H.take n⟩ Ha t:=by
 have ho:∀p,(∀j,p≠.c n j)->aD ⟨env,H.take n⟩ p=aD ⟨env,H⟩ p:=by
  intro p hp;cases p with
  |s i=>rfl
  |sc i j=>rfl
  |c b j=>
    unfold aD;simp only[at_,tx];by_cases hb:b<n
    ·rw[if_pos hb]
    ·rw[if_neg hb]
     have:aO H b=none:=by
      cases e:aO H b with
      |none=>rfl
      |some cs=>
        have:=eI e;simp only[hl] at this;exact absurd (by rw[show b=n by omega]) (hp j)
     rw[this]
 have hs:∀{p},(aD ⟨env,H.take n⟩ p).isSome->(aD ⟨env,H⟩ p).isSome:=by
  intro p hp;by_cases hc:∀j,p≠.c n j
  ·rwa [ho p hc] at hp
  ·exfalso;apply hc;rintro j rfl;unfold aD at hp;simp[at_,tx] at hp
 have hlen:(H.take n).length=n:=by simp; omega
 have Cb:∀{b},(aO (H.take n) b).isSome->(aO H b).isSome:=by
  intro b hb;rw[tx] at hb;split at hb
  ·exact hb
  ·cases hb
 refine⟨h.env,fun i=>?_,h.heap,fun p k xs e=>?_,fun b cs e=>?_,fun p q m e1 e2=>h.inj p q m (hs e1) (hs e2),fun b p e1 e2=>h.bx b p (Cb e1) (hs e2),fun b c e1 e2=>h.bi b c (Cb e1) (Cb e2)⟩
 ·have:=h.Ib i;simp only[hl] at this;simp only[hlen];exact QR ho _ this (KE he i)
 ·refine h.own p k xs ?_;by_cases hc:∀j,p≠.c n j
  ·rwa [ho p hc] at e
  ·exfalso;apply hc;rintro j rfl;unfold aD at e;simp[at_,tx] at e
 ·simp only[tx] at e;split at e
  ·obtain⟨as,g1,g2,g3⟩:=h.box b cs e;refine⟨as,g1,g2,fun j c hc=>?_⟩;obtain⟨k1,k2⟩:=g3 j c hc;refine⟨?_,k2⟩;simp only[hl] at k1;simp only[hlen];refine QR ho _ k1 (KD (Dn hH b cs ?_) j c hc);rw[tx,if_pos ‹_›];exact e
  ·cases e
theorem fx.trim {env:Env} {base0:Nat}:∀(n:Nat) {H:Heap},fx X φ w N ⟨env,H⟩ Ha t->fx X φ w N ⟨env,trim base0 env n H⟩ Ha t
 |0,H,h=>h
 |n+1,H,h=>by
   simp only[Go.Bm.trim];split
   ·rename_i hc;exact fx.trim n (h.amk hc.2.1 hc.2.2.1 hc.2.2.2)
   ·exact h
end
end Go.Bm

/- From the hand to a slot. -/
namespace Go.Bm
open Go.Am

mutual
theorem acf {N N':Names} {m:Rt->Rt} {g:AV->AV} (fy:N'.β=N.β) (hg:∀k p a l,g (.eE k p a l)=.eE k (m p) a l/\g (.fP k p a l)=.fP k (m p) a l) :
  ∀ x,(∀p∈aU x,N'.ν (m p)=N.ν p)->df N' (cZ g x)=df N x
 |.eE k p a l,h=>by simp only[cZ,(hg k p a l).1,df]; rw[h p (by simp[aU])]
 |.fP k p a l,h=>by simp only[cZ,(hg k p a l).2,df]; rw[h p (by simp[aU])]
 |.ptr b off,_=>by simp only[cZ,df,fy]
 |.agg cs,h=>by simp only[cZ,df]; rw[Jd fy hg cs (fun p hp=>h p (by simpa[aU] using hp))]
 |.dJ cs,h=>by simp only[cZ,df]; rw[Jd fy hg cs (fun p hp=>h p (by simpa[aU] using hp))]
 |.func f a b,h=>by
   simp only[cZ,df];rw[Jd fy hg a (fun p hp=>h p (by simp only[aU,aG]; exact .inl hp)),Jd fy hg b (fun p hp=>h p (by simp only[aU,aG]; exact .inr hp))]
 |.any,_=>rfl
 |.undef,_=>rfl
 |.gq,_=>rfl
 |.gz,_=>rfl
 |.dO,_=>rfl
 |.int _ _,_=>rfl
 |.bool _,_=>rfl
 |.str _,_=>rfl
 |.list _ _,_=>rfl
 |.dV _,_=>rfl
 |.own _ _,_=>rfl
 |.sl _ b _ _,_=>by simp only[cZ,df,fy]
theorem Jd {N N':Names} {m:Rt->Rt} {g:AV->AV} (fy:N'.β=N.β) (hg:∀k p a l,g (.eE k p a l)=.eE k (m p) a l/\g (.fP k p a l)=.fP k (m p) a l) :
  ∀ cs,(∀p∈dL cs,N'.ν (m p)=N.ν p)->m9 N' (dq g cs)=m9 N cs
 |[],_=>rfl
 |x::r,h=>by
   simp only[dq,m9];rw[acf fy hg x (fun p hp=>h p (by simp only[dL,aG]; exact .inl hp)),Jd fy hg r (fun p hp=>h p (by simp only[dL,aG]; exact .inr hp))]
end
mutual
theorem TL {o o':Rt->Option (Nat × List AV)} {nb:Nat} {m:Rt->Rt} {g:AV->AV} (hg:∀k p a l,g (.eE k p a l)=.eE k (m p) a l/\g (.fP k p a l)=.fP k (m p) a l) :
  ∀ x,(∀p∈aU x,o' (m p)=o p)->c9 o nb x->c9 o' nb (cZ g x)
 |.eE k p a l,h,hk=>by simp only[cZ,(hg k p a l).1,c9] at hk ⊢; rw[h p (by simp[aU])]; exact hk
 |.fP k p a l,h,hk=>by simp only[cZ,(hg k p a l).2,c9] at hk ⊢; rw[h p (by simp[aU])]; exact hk
 |.ptr b off,_,hk=>hk
 |.agg cs,h,hk=>by simp only[cZ,c9] at hk ⊢; exact Kw hg cs (fun p hp=>h p (by simpa[aU] using hp)) hk
 |.dJ cs,h,hk=>by simp only[cZ,c9] at hk ⊢; exact Kw hg cs (fun p hp=>h p (by simpa[aU] using hp)) hk
 |.func f a b,h,hk=>by
   simp only[cZ,c9] at hk ⊢;exact⟨Kw hg a (fun p hp=>h p (by simp only[aU,aG]; exact .inl hp)) hk.1,Kw hg b (fun p hp=>h p (by simp only[aU,aG]; exact .inr hp)) hk.2⟩
 |.any,_,_=>trivial
 |.undef,_,_=>trivial
 |.gq,_,_=>trivial
 |.gz,_,_=>trivial
 |.dO,_,_=>trivial
 |.int _ _,_,_=>trivial
 |.bool _,_,_=>trivial
 |.str _,_,_=>trivial
 |.list _ _,_,_=>trivial
 |.dV _,_,_=>trivial
 |.own _ _,_,_=>trivial
 |.sl _ _ _ _,_,h=>h
theorem Kw {o o':Rt->Option (Nat × List AV)} {nb:Nat} {m:Rt->Rt} {g:AV->AV} (hg:∀k p a l,g (.eE k p a l)=.eE k (m p) a l/\g (.fP k p a l)=.fP k (m p) a l) :
  ∀ cs,(∀p∈dL cs,o' (m p)=o p)->lJ o nb cs->lJ o' nb (dq g cs)
 |[],_,_=>trivial
 |x::r,h,hk=>by
   simp only[dq,lJ] at hk ⊢;exact⟨TL hg x (fun p hp=>h p (by simp only[dL,aG]; exact .inl hp)) hk.1,Kw hg r (fun p hp=>h p (by simp only[dL,aG]; exact .inr hp)) hk.2⟩
end
theorem lZ {cs:List AV} {j:Nat} {c:AV} (h:cs[j]?=some c) {p:Rt} (hp:p∈aU c):p∈dL cs:=by
 induction cs generalizing j with
 |nil=>simp at h
 |cons x r ih=>
   simp only[dL,aG];cases j with
   |zero=>simp at h; subst h; exact .inl hp
   |succ j=>exact .inr (ih (by simpa using h))
theorem Ch {N N':Names} {m:Rt->Rt} {g:AV->AV} (fy:N'.β=N.β) (hg:∀k p a l,g (.eE k p a l)=.eE k (m p) a l/\g (.fP k p a l)=.fP k (m p) a l) {r r':Rt} {x:AV} (hr:∀k xs,x=.own k xs->N'.ν r'=N.ν r) (hx:∀p∈aU x,N'.ν (m p)=N.ν p) :
  kf N' r' (cZ g x)=kf N r x:=by
 have hL:kT g:=fun k p a l=>by rw[(hg k p a l).1,(hg k p a l).2]; exact⟨⟨(fun cs e=>by cases e),(fun k xs e=>by cases e)⟩,⟨(fun cs e=>by cases e),(fun k xs e=>by cases e)⟩⟩
 by_cases ho:∃k xs,x=.own k xs
 ·obtain⟨k,xs,rfl⟩:=ho;simp only[cZ,kf,tJ,hr k xs rfl]
 ·obtain⟨e1,e2⟩:=PW (N:=N) (N':=N') hL (r:=r) (x:=x) (fun k xs e=>ho ⟨k,xs,e⟩);obtain⟨_,e3⟩:=PW (N:=N) (N':=N') hL (r:=r') (x:=x) (fun k xs e=>ho ⟨k,xs,e⟩);rw[e1,e3,acf fy hg x hx]
theorem PV {N N':Names} {m:Rt->Rt} {g:AV->AV} (fy:N'.β=N.β) (hg:∀k p a l,g (.eE k p a l)=.eE k (m p) a l/\g (.fP k p a l)=.fP k (m p) a l) {i i':Nat} {x:AV} (h1:N'.ν (.s i')=N.ν (.s i)) (h2:∀j,N'.ν (.sc i' j)=N.ν (.sc i j)) (hx:∀p∈aU x,N'.ν (m p)=N.ν p) :
  lK N' i' (cZ g x)=lK N i x:=by
 have hL:kT g:=fun k p a l=>by rw[(hg k p a l).1,(hg k p a l).2]; exact⟨⟨(fun cs e=>by cases e),(fun k xs e=>by cases e)⟩,⟨(fun cs e=>by cases e),(fun k xs e=>by cases e)⟩⟩
 by_cases ha:∃cs,x=.agg cs
 ·obtain⟨cs,rfl⟩:=ha;simp only[cZ,lK];congr 1;apply eT;intro j;rw[gV,gV,ft];simp only[ik];cases hc:cs[j]? with
  |none=>rfl
  |some c=>
    simp only[dE];rw[Ch fy hg (r:=.sc i j) (fun _ _ _=>h2 j) (fun p hp=>hx p (by simp only[aU]; exact lZ hc hp))]
 ·have hn:kK x:=fun cs e=>ha ⟨cs,e⟩;have VR:kK (cZ g x):=nj hL hn
  have e1:lK N' i' (cZ g x)=kf N' (.s i') (cZ g x):=by
   generalize cZ g x=y at VR;cases y<;>first|rfl|exact absurd rfl (VR _)
  have e2:lK N i x=kf N (.s i) x:=by cases x<;>first|rfl|exact absurd rfl (hn _)
  rw[e1,e2];exact Ch fy hg (fun _ _ _=>h1) hx
section
variable {X:Nat->Prop} {φ:dQ} {w:World} {N:Names} {s s':St} {Ha:Heap} {t t':Nat->Value} {B:Nat->Nat} {base:Nat}
theorem ET (i d:Nat):∀k p a l,mvB i d (.eE k p a l)=.eE k (kI i d p) a l/\mvB i d (.fP k p a l)=.fP k (kI i d p) a l:=fun _ _ _ _=>⟨rfl,rfl⟩
theorem F8 {i d:Nat} {p:Rt} (h:bJ d p=false):kI d i (kI i d p)=p:=by
 cases p with
 |s j=>
   simp only[bJ,decide_eq_false_iff_not] at h;simp only[kI];by_cases e:j=i
   ·subst e; simp
   ·simp[e,h]
 |sc j l=>
   simp only[bJ,decide_eq_false_iff_not] at h;simp only[kI];by_cases e:j=i
   ·subst e; simp
   ·simp[e,h]
 |c b j=>rfl
theorem TW {i d:Nat} {q:Rt} (h:bJ i q=false):kI i d (kI d i q)=q:=F8 h
theorem fx.hand {i d:Nat} (h:fx X φ w N s Ha t) (tI:i≠d) (hC:∀r x,at_ s r=some x->∀p∈aU x,bJ d p=false)
  (he:∀j,get s'.env j=if j=d then cZ (mvB i d) (get s.env i) else if j=i then .any else cZ (mvB i d) (get s.env j)) (hH:s'.H=fI (mvB i d) s.H) (ht:∀j,j≠i->t' j=if j=d then t i else t j) :
  ∃ N',N'.β=N.β/\fx X φ w N' s' Ha t':=by
 have hg:=ET i d;have hL:=alz i d
 have atq:∀q,bJ i q=false->at_ s' q=(at_ s (kI d i q)).map (cZ (mvB i d)):=by
  intro q hq;rw[<-ku hL];cases q with
  |s j=>
    simp only[bJ,decide_eq_false_iff_not] at hq;simp only[at_,he,kI,cE];by_cases e:j=d
    ·simp[e,dT]
    ·simp[e,hq,dT]
  |sc j l=>
    simp only[bJ,decide_eq_false_iff_not] at hq;simp only[at_,he,kI,cE];by_cases e:j=d
    ·simp[e,dT]
    ·simp[e,hq,dT]
  |c b j=>simp only[at_,hH,kI,cE]
 have atn:∀q,bJ i q=true->aD s' q=none:=by
  intro q hq;cases q with
  |s j=>simp only[bJ,decide_eq_true_eq] at hq; subst hq; unfold aD; simp[at_,he,tI]
  |sc j l=>simp only[bJ,decide_eq_true_eq] at hq; subst hq; unfold aD; simp[at_,he,tI]
  |c b j=>simp[bJ] at hq
 have own:∀q,bJ i q=false->aD s' q=aD s (kI d i q):=by
  intro q hq;rw[<-jd hL s (kI d i q)];exact QO (by rw[atq q hq,ku hL])
 have own2:∀p,bJ d p=false->aD s' (kI i d p)=aD s p:=by
  intro p hp
  have hi:bJ i (kI i d p)=false:=by
   cases p with
   |s j=>simp only[kI]; split<;>simp_all [bJ]; exact fun e=>tI e.symm
   |sc j l=>simp only[kI]; split<;>simp_all [bJ]; exact fun e=>tI e.symm
   |c b j=>rfl
  rw[own _ hi,F8 hp]
 have hlen:s'.H.length=s.H.length:=by rw[hH,gk]
 obtain⟨N',fy,hN⟩:∃N':Names,N'.β=N.β/\∀ q,N'.ν q=N.ν (kI d i q):=⟨⟨N.β,fun q=>N.ν (kI d i q)⟩,rfl,fun _=>rfl⟩;have kW:∀p,bJ d p=false->N'.ν (kI i d p)=N.ν p:=fun p hp=>by rw[hN,F8 hp]
 refine⟨N',fy,⟨fun j=>?_,fun j=>?_,h.heap,fun p k xs e=>?_,fun b cs e=>?_,fun p q n e1 e2 e3 e4=>?_,fun b p e1 e2 e3=>?_,fun b c e1 e2 e3=>?_⟩⟩
 ·rw[he];by_cases hjd:j=d
  ·subst hjd;rw[if_pos rfl,ht j (fM tI),if_pos rfl];rw[PV (N:=N) (i:=i) fy hg (by simp[hN,kI]) (fun l=>by simp[hN,kI]) (fun p hp=>kW p (hC (.s i) _ rfl p hp))];exact h.env i
  ·rw[if_neg hjd];by_cases M0:j=i
   ·rw[if_pos M0]; exact .any _ _
   ·rw[if_neg M0,ht j M0,if_neg hjd];rw[PV (N:=N) (i:=j) fy hg (by simp[hN,kI,hjd]) (fun l=>by simp[hN,kI,hjd]) (fun p hp=>kW p (hC (.s j) _ rfl p hp))];exact h.env j
 ·rw[he,hlen];by_cases hjd:j=d
  ·rw[if_pos hjd];exact TL hg _ (fun p hp=>own2 p (hC (.s i) _ rfl p hp)) (h.Ib i)
  ·rw[if_neg hjd];by_cases M0:j=i
   ·rw[if_pos M0]; trivial
   ·rw[if_neg M0];exact TL hg _ (fun p hp=>own2 p (hC (.s j) _ rfl p hp)) (h.Ib j)
 ·cases hq:bJ i p with
  |true=>rw[atn p hq] at e; cases e
  |false=>rw[own p hq] at e; rw[hN]; exact h.own _ k xs e
 ·rw[hH,fZ] at e;cases hb:aO s.H b with
  |none=>rw[hb] at e; cases e
  |some ds=>
    rw[hb] at e;simp at e;subst e;obtain⟨as,g1,g2,g3⟩:=h.box b ds hb;refine⟨as,by rw[fy]; exact g1,by rw[cW]; exact g2,fun j c hc=>?_⟩;rw[ft] at hc;cases hd:ds[j]? with
    |none=>rw[hd] at hc; cases hc
    |some c0=>
      rw[hd] at hc;simp at hc;subst hc;have hcc:=fun p hp=>hC (.c b j) c0 (by rw[Au hb]; exact hd) p hp;obtain⟨k1,a,k2,k3⟩:=g3 j c0 hd;refine⟨by rw[hlen]; exact TL hg _ (fun p hp=>own2 p (hcc p hp)) k1,a,k2,?_⟩;rw[Ch (N:=N) (r:=.c b j) fy hg (fun _ _ _=>by rw[hN]; rfl) (fun p hp=>kW p (hcc p hp))];exact k3
 ·have hp:bJ i p=false:=by
   cases hq:bJ i p with
   |true=>rw[atn p hq] at e1; cases e1
   |false=>rfl
  have hq:bJ i q=false:=by
   cases hq:bJ i q with
   |true=>rw[atn q hq] at e2; cases e2
   |false=>rfl
  rw[own p hp] at e1;rw[own q hq] at e2;rw[hN] at e3 e4;have:=h.inj _ _ n e1 e2 e3 e4;rw[<-TW (d:=d) hp,this,TW hq]
 ·have hp:bJ i p=false:=by
   cases hq:bJ i p with
   |true=>rw[atn p hq] at e2; cases e2
   |false=>rfl
  rw[own p hp] at e2;rw[hN,fy] at e3;refine h.bx b _ ?_ e2 e3;rw[hH,fZ] at e1;cases hb:aO s.H b with
  |none=>rw[hb] at e1; cases e1
  |some _=>rfl
 ·have sb:∀{b},(aO s'.H b).isSome->(aO s.H b).isSome:=by
   intro b hb;rw[hH,fZ] at hb;cases e:aO s.H b with
   |none=>rw[e] at hb; cases hb
   |some _=>rfl
  rw[fy] at e3;exact h.bi b c (sb e1) (sb e2) e3
end
end Go.Bm

/- A value goes to its slot. -/
namespace Go.Bm
open Go.Am
mutual
theorem FW {o:Rt->Option (Nat × List AV)} {nb:Nat}:∀x,c9 o nb x->∀p∈aU x,(o p).isSome
 |.eE k q a l,h,p,hp=>by simp only[aU,cG] at hp; subst hp; simp only[c9] at h; obtain⟨xs,e,_⟩:=h; rw[e]; rfl
 |.fP k q a l,h,p,hp=>by simp only[aU,cG] at hp; subst hp; simp only[c9] at h; obtain⟨xs,e,_⟩:=h; rw[e]; rfl
 |.agg cs,h,p,hp=>by simp only[c9,aU] at h hp; exact EG cs h p hp
 |.dJ cs,h,p,hp=>by simp only[c9,aU] at h hp; exact EG cs h p hp
 |.func f a b,h,p,hp=>by
   simp only[c9,aU,aG] at h hp;rcases hp with hp|hp
   ·exact EG a h.1 p hp
   ·exact EG b h.2 p hp
 |.any,_,p,hp=>by simp[aU] at hp
 |.undef,_,p,hp=>by simp[aU] at hp
 |.gq,_,p,hp=>by simp[aU] at hp
 |.gz,_,p,hp=>by simp[aU] at hp
 |.dO,_,p,hp=>by simp[aU] at hp
 |.int _ _,_,p,hp=>by simp[aU] at hp
 |.bool _,_,p,hp=>by simp[aU] at hp
 |.str _,_,p,hp=>by simp[aU] at hp
 |.list _ _,_,p,hp=>by simp[aU] at hp
 |.dV _,_,p,hp=>by simp[aU] at hp
 |.own _ _,_,p,hp=>by simp[aU] at hp
 |.ptr _ _,_,p,hp=>by simp[aU] at hp
 |.sl _ _ _ _,_,p,hp=>by simp[aU] at hp
theorem EG {o:Rt->Option (Nat × List AV)} {nb:Nat}:∀cs,lJ o nb cs->∀p∈dL cs,(o p).isSome
 |[],_,p,hp=>by simp[dL] at hp
 |x::r,h,p,hp=>by
   simp only[lJ,dL,aG] at h hp;rcases hp with hp|hp
   ·exact FW x h.1 p hp
   ·exact EG r h.2 p hp
end
mutual
theorem tX {g:AV->AV} {m:Rt->Rt} (hg:∀k p a l,g (.eE k p a l)=.eE k (m p) a l/\g (.fP k p a l)=.fP k (m p) a l):∀x,(∀p∈aU x,m p=p)->cZ g x=x
 |.eE k p a l,h=>by simp only[cZ,(hg k p a l).1]; rw[h p (by simp[aU])]
 |.fP k p a l,h=>by simp only[cZ,(hg k p a l).2]; rw[h p (by simp[aU])]
 |.agg cs,h=>by simp only[cZ]; rw[tc hg cs (fun p hp=>h p (by simpa[aU] using hp))]
 |.dJ cs,h=>by simp only[cZ]; rw[tc hg cs (fun p hp=>h p (by simpa[aU] using hp))]
 |.func f a b,h=>by
   simp only[cZ];rw[tc hg a (fun p hp=>h p (by simp only[aU,aG]; exact .inl hp)),tc hg b (fun p hp=>h p (by simp only[aU,aG]; exact .inr hp))]
 |.any,_=>rfl
 |.undef,_=>rfl
 |.gq,_=>rfl
 |.gz,_=>rfl
 |.dO,_=>rfl
 |.int _ _,_=>rfl
 |.bool _,_=>rfl
 |.str _,_=>rfl
 |.list _ _,_=>rfl
 |.dV _,_=>rfl
 |.own _ _,_=>rfl
 |.ptr _ _,_=>rfl
 |.sl _ _ _ _,_=>rfl
theorem tc {g:AV->AV} {m:Rt->Rt} (hg:∀k p a l,g (.eE k p a l)=.eE k (m p) a l/\g (.fP k p a l)=.fP k (m p) a l):∀cs,(∀p∈dL cs,m p=p)->dq g cs=cs
 |[],_=>rfl
 |x::r,h=>by
   simp only[dq];rw[tX hg x (fun p hp=>h p (by simp only[dL,aG]; exact .inl hp)),tc hg r (fun p hp=>h p (by simp only[dL,aG]; exact .inr hp))]
end
theorem IF {g:AV->AV} {m:Rt->Rt} (hg:∀k p a l,g (.eE k p a l)=.eE k (m p) a l/\g (.fP k p a l)=.fP k (m p) a l):∀H:Heap,(∀b cs,aO H b=some cs->∀p∈dL cs,m p=p)->fI g H=H
 |[],_=>rfl
 |none::r,h=>by simp only[fI]; rw[IF hg r (fun b cs hb=>h (b+1) cs (by simpa[aO] using hb))]
 |some cs::r,h=>by simp only[fI]; rw[IF hg r (fun b ds hb=>h (b+1) ds (by simpa[aO] using hb)),tc hg cs (h 0 cs rfl)]
theorem kS {f:Rt->Bool}:∀{l:List Rt},Aw f l=false->∀p∈l,f p=false
 |[],_,p,hp=>by simp at hp
 |q::r,h,p,hp=>by
   simp only[Aw,fD] at h;rcases aK.1 hp with e|e
   ·subst e; exact h.1
   ·exact kS h.2 p e
theorem tA {f:Rt->Bool}:∀{e:Env},Mc f e=false->∀i,∀p∈aU (get e i),f p=false
 |[],_,i,p,hp=>by simp[Am.get,aU] at hp
 |(j,v)::r,h,i,p,hp=>by
   simp only[Mc,fD] at h;simp only[Am.get] at hp;split at hp
   ·exact kS h.1 p hp
   ·exact tA h.2 i p hp
theorem xv {f:Rt->Bool}:∀{H:Heap},Iq f H=false->∀b cs,aO H b=some cs->∀p∈dL cs,f p=false
 |[],_,b,cs,hb,p,hp=>by simp[aO] at hb
 |none::r,h,b,cs,hb,p,hp=>by
   simp only[Iq] at h;cases b with
   |zero=>simp[aO] at hb
   |succ b=>exact xv h b cs (by simpa[aO] using hb) p hp
 |some ds::r,h,b,cs,hb,p,hp=>by
   simp only[Iq,fD] at h;cases b with
   |zero=>simp[aO] at hb; subst hb; exact kS h.1 p hp
   |succ b=>exact xv h.2 b cs (by simpa[aO] using hb) p hp
theorem I3 {cs:List AV} {p:Rt} (hp:p∈dL cs):∃(j:Nat) (c:AV),cs[j]?=some c/\p∈aU c:=by
 induction cs with
 |nil=>simp[dL] at hp
 |cons x r ih=>
   simp only[dL,aG] at hp;rcases hp with hp|hp
   ·exact⟨0,x,rfl,hp⟩
   ·obtain⟨j,c,h1,h2⟩:=ih hp;exact⟨j+1,c,by simpa using h1,h2⟩
theorem Pg:∀(e:Env) (l:List Nat),∃i,Am.get e i=.any/\i∉l:=by
 have key:∀e:Env,∃n,∀i,n<=i->Am.get e i=.any:=by
  intro e
  induction e with
  |nil=>exact⟨0,fun i _=>rfl⟩
  |cons p r ih=>
    obtain⟨j,v⟩:=p;obtain⟨n,hn⟩:=ih;refine⟨max n (j+1),fun i hi=>?_⟩;simp only[Am.get];rw[if_neg (by omega)];exact hn i (by omega)
 intro e l;obtain⟨n,hn⟩:=key e
 have:∃m,∀x∈l,x<m:=by
  induction l with
  |nil=>exact⟨0,fun x hx=>by simp at hx⟩
  |cons y r ih=>
    obtain⟨m,hm⟩:=ih;refine⟨max m (y+1),fun x hx=>?_⟩;rcases aK.1 hx with e|e
    ·omega
    ·have:=hm x e; omega
 obtain⟨m,hm⟩:=this;exact⟨max n m,hn _ (by omega),fun h=>by have:=hm _ h; omega⟩
section
variable {X:Nat->Prop} {φ:dQ} {w:World} {s s':St} {t t':Nat->Value} {B:Nat->Nat} {base:Nat} {v:AV} {v':Value}
structure eR (X:Nat->Prop) (φ:dQ) (w:World) (B:Nat->Nat) (base:Nat) (s:St) (v:AV) (t:Nat->Value) (v':Value):Prop where
 st:SB X φ w B base s t
 ok:c9 (aD s) s.H.length v
 put:∀i,get s.env i=.any->SB X φ w B base ⟨put s.env i v,s.H⟩ (fun j=>if j=i then v' else t j)
theorem RW {r:Rt} {x:AV} (h:SB X φ w B base s t) (hx:at_ s r=some x):∀p∈aU x,(aD s p).isSome:=by
 obtain⟨N,Ha,h,_⟩:=h;exact FW x (h.EH hx)
theorem aia {b:Nat} {cs:List AV} (h:SB X φ w B base s t) (hb:aO s.H b=some cs):∀p∈dL cs,(aD s p).isSome:=by
 intro p hp;obtain⟨j,c,h1,h2⟩:=I3 hp;exact RW h (r:=.c b j) (by rw[Au hb]; exact h1) p h2
theorem agV {i d:Nat} {p:Rt} (h:bJ i p=false):kI i d p=p:=by
 cases p with
 |s j=>simp only[bJ,decide_eq_false_iff_not] at h; simp[kI,h]
 |sc j l=>simp only[bJ,decide_eq_false_iff_not] at h; simp[kI,h]
 |c b j=>rfl
theorem xt {i:Nat} {p:Rt} (hi:bX (get s.env i)=false) (hp:(aD s p).isSome):bJ i p=false:=by
 obtain⟨h1,h2⟩:=eH hi;cases p with
 |s j=>
   simp only[bJ,decide_eq_false_iff_not];rintro rfl;rw[h1] at hp; cases hp
 |sc j l=>
   simp only[bJ,decide_eq_false_iff_not];rintro rfl;rw[h2] at hp; cases hp
 |c b j=>rfl
theorem SB.hand {i d:Nat} (h:SB X φ w B base s t) (tI:i≠d) (hC:∀r x,at_ s r=some x->∀p∈aU x,bJ d p=false)
  (he:∀j,get s'.env j=if j=d then cZ (mvB i d) (get s.env i) else if j=i then .any else cZ (mvB i d) (get s.env j)) (hH:s'.H=fI (mvB i d) s.H) (ht:∀j,j≠i->t' j=if j=d then t i else t j):SB X φ w B base s' t':=by
 obtain⟨N,Ha,h,hb,hl⟩:=h;obtain⟨N',e,h'⟩:=h.hand tI hC he hH ht;exact⟨N',Ha,h',fun b bD=>by rw[e]; exact hb b bD,by rw[hH,gk]; exact hl⟩
theorem akA (h:eR X φ w B base s v t v') {d:Nat} (hp:putB s d v=some s') (hd:d≠fR) (ht:∀j,t' j=if j=d then v' else t j):∃φ',SB X φ' w B base s' t'/\fU φ w φ' w:=by
 unfold putB at hp;split at hp
 ·split at hp
  case h_2=>cases hp
  rename_i M6;split at hp
  ·cases hp
  rename_i ho;simp at hp;subst hp;obtain⟨kX,h1,a1⟩:=(h.put fR M6).Fj d;refine⟨kX,h1.hand (i:=fR) (d:=d) (fM hd) (fun r x hx p hp=>xt (by simpa using ho) (RW h1 hx p hp)) (fun j=>?_) ?_ (fun j hj=>?_),a1⟩
  ·simp only[RJ,bM,cE,dT]
  ·simp only[RJ,cE]
  ·rw[ht,if_pos rfl,if_neg hj]
 ·rename_i hs;simp at hp;subst hp;obtain⟨i,hi,tI⟩:=Pg s.env [d];have hid':i≠d:=fun e=>tI (by simp[e]);have hio:bX (get s.env i)=false:=by rw[hi]; rfl
  have IK:=h.put i hi;have TV:∀{p},(aD s p).isSome->kI i d p=p:=fun hp=>agV (xt hio hp);refine⟨φ,IK.hand (i:=i) (d:=d) hid' (fun r x hx p hp=>?_) (fun j=>?_) ?_ (fun j hj=>?_),.refl _ _⟩
  ·simp only[SF,ae,not_and,Bool.not_eq_true] at hs;cases hod:bX (get s.env d) with
   |false=>
     refine xt (s:=⟨put s.env i v,s.H⟩) (i:=d) ?_ (RW IK hx p hp);simp only[bM];rw[if_neg (fM hid')];exact hod
   |true=>
     have hn:=hs hod;simp only[Me,fD] at hn;cases r with
     |s j=>
       simp only[at_,bM,ai] at hx;subst hx;split at hp
       ·exact kS hn.1 p hp
       ·exact tA hn.2.1 j p hp
     |sc j l=>
       simp only[at_,bM] at hx;split at hx
       ·rename_i cs eM;split at eM
        ·subst eM;exact kS hn.1 p (by simp only[aU]; exact lZ hx hp)
        ·exact tA hn.2.1 j p (by rw[eM]; simp only[aU]; exact lZ hx hp)
       ·cases hx
     |c b l=>
       simp only[at_] at hx;split at hx
       ·rename_i cs eM;exact xv hn.2.2 b cs eM p (lZ hx hp)
       ·cases hx
  ·simp only[bM];by_cases hjd:j=d
   ·rw[if_pos hjd,if_pos hjd,if_pos trivial,tX (ET i d) v (fun p hp=>TV (FW v h.ok p hp))]
   ·rw[if_neg hjd,if_neg hjd];by_cases M0:j=i
    ·rw[if_pos M0,M0]; exact hi
    ·rw[if_neg M0,if_neg M0,tX (ET i d) _ (fun p hp=>TV (RW h.st (r:=.s j) rfl p hp))]
  ·exact (IF (ET i d) s.H (fun b cs hb p hp=>TV (aia h.st hb p hp))).symm
  ·rw[ht,if_pos rfl,if_neg hj]
theorem agy (h:eR X φ w B base s v t v') {d:Option Nat} (hp:B8 s d v=some s') (hd:d≠some fR) (ht:∀j,t' j=if some j=d then v' else t j):∃φ',SB X φ' w B base s' t'/\fU φ w φ' w:=by
 cases d with
 |none=>
   simp[B8] at hp;subst hp;refine⟨φ,?_,.refl _ _⟩;obtain⟨N,Ha,h1,hb⟩:=h.st;have:t'=t:=by funext j; rw[ht,if_neg (by simp)]
   rw[this];exact⟨N,Ha,h1,hb⟩
 |some d=>exact akA h (by simpa[B8] using hp) (fun e=>hd (by rw[e])) (fun j=>by rw[ht]; simp)
end
end Go.Bm

/- Operations that change nothing, in both machines. -/
namespace Go.Bm
open Go.Am

def xd:AV->Bool
 |.bool _|.int _ _|.dO|.gq|.gz|.undef=>true
 |_=>false
def ob:List AV->Bool
 |[]=>true
 |x::r=>xd x&&ob r
def isC:AV->Bool
 |.agg cs=>ob cs
 |.func _ [] []=>true
 |x=>xd x
theorem aa2 {v:Value} {x:AV} (h:PC v x=true):xd x=true:=by
 unfold PC at h;split at h<;>first|rfl|cases h
theorem RS:∀{vs:List Value} {xs:List AV},tp vs xs=true->ob xs=true
 |[],[],_=>rfl
 |[],_::_,h=>by simp[tp] at h
 |_::_,[],h=>by simp[tp] at h
 |v::r,x::s,h=>by
   simp only[tp,ae] at h;simp only[ob,ae];exact⟨aa2 h.1,RS h.2⟩
theorem EZ {x:AV} (h:xd x=true):isC x=true:=by cases x<;>first|(simp[xd] at h; done)|rfl|exact h
theorem alZ {o:Operand} {a:AV} (h:dF o (.k a)=true):isC a=true:=by
 unfold dF at h;split at h
 ·rename_i hk; cases hk
 ·rename_i v x hk;cases hk;unfold chkV at h;split at h
  ·exact RS h
  ·exact EZ (aa2 h)
 ·rename_i f g hk; cases hk; rfl
 ·rename_i hk; cases hk
 ·cases h
theorem ach (N:Names) {x:AV} (h:xd x=true):df N x=x:=by cases x<;>first|rfl|simp[xd] at h
theorem acg (N:Names):∀{xs:List AV},ob xs=true->m9 N xs=xs
 |[],_=>rfl
 |x::r,h=>by
   simp only[ob,ae] at h;simp only[m9];rw[ach N h.1,acg N h.2]
theorem tr_c (N:Names) {x:AV} (h:isC x=true):df N x=x:=by
 unfold isC at h;split at h
 ·simp only[df]; rw[acg N h]
 ·rfl
 ·exact ach N h
theorem dn_c {x:AV} (h:isC (dnV x)=true):(∃k,x=.own k []/\dnV x=.dO)\/(isC x=true/\dnV x=x):=by
 unfold dnV at h ⊢;split
 ·exact .inl ⟨_,rfl,rfl⟩
 ·rename_i hn;split at h
  ·rename_i k; exact absurd rfl (hn k)
  ·exact .inr ⟨h,rfl⟩

def ig (N:Names):AV->AV
 |.own _ _=>.dO
 |x=>df N x
def ja (N:Names):List AV->List AV
 |[]=>[]
 |x::r=>ig N x::ja N r
def yT (N:Names):AV->AV
 |.own _ _=>.dO
 |.agg cs=>.agg (ja N cs)
 |x=>df N x
def EO:AV->Prop
 |.own _ xs=>xs=[]
 |.agg cs=>∀(j k:Nat) (xs:List AV),cs[j]?=some (.own k xs)->xs=[]
 |_=>True
theorem pG (N:Names):∀(cs:List AV) (i:Nat),(ja N cs)[i]?=(cs[i]?).map (ig N)
 |[],i=>by simp[ja]
 |x::r,i=>by cases i<;>simp[ja,pG N r]
theorem jU (N:Names):∀cs:List AV,(ja N cs).length=cs.length
 |[]=>rfl
 |x::r=>by simp[ja,jU N r]
theorem lV (N:Names):∀{cs:List AV},bZ cs=false->ja N cs=m9 N cs
 |[],_=>rfl
 |x::r,h=>by
   simp only[ja,m9];cases x<;>simp[bZ] at h<;>rw[lV N h]<;>rfl
theorem mg (N:Names) {x:AV} (h:bX x=false):yT N x=df N x:=by
 cases x<;>first|rfl|(simp[bX] at h; done)|skip
 rename_i cs;simp only[bX] at h;simp only[yT,df];rw[lV N h]
theorem af2 (N:Names) {x:AV} (h:∀cs,x=.agg cs->bZ cs=false):ig N x=yT N x:=by
 cases x<;>first|rfl|skip
 rename_i cs;simp only[ig,df,yT];rw[lV N (h cs rfl)]
theorem OX (f:Nat->Rt):∀(cs:List AV) (j:Nat),bZ (fw f j cs)=false
 |[],j=>rfl
 |x::r,j=>by
   have ih:=OX f r (j+1);cases x<;>simp[fw,bZ,ih]
theorem Ua (i:Nat) (v:AV):bX (fJ i v)=false:=by
 cases v<;>simp[fJ,bX]
 exact OX _ _ _
theorem Ge (f:Nat->Rt):∀(cs:List AV) (j i:Nat),(fw f j cs)[i]?=(cs[i]?).map (fun x=>match x with
  |.own k xs=>.eE k (f (j+i)) 0 xs.length
  |x=>x)
 |[],j,i=>by simp[fw]
 |x::r,j,i=>by
   cases i with
   |zero=>cases x<;>simp[fw]
   |succ i=>
     have ih:=Ge f r (j+1) i;rw[show j+1+i=j+(i+1) by omega] at ih;cases x<;>simp[fw,ih]
theorem Je (N:Names) (f:Nat->Rt):∀(cs:List AV) (j:Nat),m9 N (fw f j cs)=Wf N f j cs
 |[],j=>rfl
 |x::r,j=>by
   have ih:=Je N f r (j+1);cases x<;>simp[fw,m9,Wf,kf,ih]
   simp only[df,tJ,qk]
theorem X4 (N:Names) (i:Nat) (v:AV):df N (fJ i v)=lK N i v:=by
 cases v<;>first|rfl|skip
 ·simp only[fJ,df,lK]; rw[Je]
 ·simp only[fJ,df,lK,kf,tJ,qk]
section
variable {X:Nat->Prop} {φ:dQ} {w:World} {N:Names} {s:St} {Ha:Heap} {t:Nat->Value} {c:fe} {cA:Am.fe}
theorem ai7 {o:Rt->Option (Nat × List AV)} {nb:Nat} {x:AV} (h:xd x=true):c9 o nb x:=by cases x<;>first|trivial|simp[xd] at h
theorem ad8 {o:Rt->Option (Nat × List AV)} {nb:Nat}:∀{xs:List AV},ob xs=true->lJ o nb xs
 |[],_=>trivial
 |x::r,h=>by simp only[ob,ae] at h; exact⟨ai7 h.1,ad8 h.2⟩
theorem ok_c {o:Rt->Option (Nat × List AV)} {nb:Nat} {x:AV} (h:isC x=true):c9 o nb x:=by
 unfold isC at h;split at h
 ·exact ad8 h
 ·exact⟨trivial,trivial⟩
 ·exact ai7 h
theorem Gm:∀{xs:List AV},ob xs=true->bZ xs=false
 |[],_=>rfl
 |x::r,h=>by
   simp only[ob,ae] at h;have:=Gm h.2;cases x<;>first|(simp[xd] at h; done)|simpa[bZ] using this
theorem ahf {x:AV} (h:isC x=true):bX x=false:=by
 unfold isC at h;split at h
 ·exact Gm h
 ·rfl
 ·rename_i h1 h2;cases x<;>first|rfl|(simp[xd] at h; done)
theorem ZM (h:fx X φ w N s Ha t) (i:Nat):c9 (aD s) s.H.length (fJ i (get s.env i)):=by
 have hk:=h.Ib i;have yQ:at_ s (.s i)=some (get s.env i):=rfl;cases hv:get s.env i<;>rw[hv] at hk yQ<;>try exact hk
 ·rename_i cs;simp only[fJ,c9] at hk ⊢;refine hZ.2 fun j c hc=>?_;rw[Ge] at hc;cases hd:cs[j]? with
  |none=>rw[hd] at hc; cases hc
  |some d=>
    rw[hd] at hc;simp only[dE,ai,ik] at hc;subst hc;have hdk:=hZ.1 hk j d hd;split
    ·rename_i k xs;simp only[c9];exact⟨xs,cM.2 (by rw[L8 hv]; exact hd),by omega⟩
    ·exact hdk
 ·rename_i k xs;simp only[fJ,c9];exact⟨xs,cM.2 yQ,by omega⟩
structure rK (N:Names) (s:St) (c:fe) (cA:Am.fe) (x:E):Prop where
 ev:Am.ev cA (DQ N s.env) (nT x)=ig N (bC c s.env x)
 ok:c9 (aD s) s.H.length (bC c s.env x)
 eo:∀k xs,bC c s.env x=.own k xs->xs=[]
 na:∀cs,bC c s.env x=.agg cs->bZ cs=false
theorem dg (h:fx X φ w N s Ha t) (vQ:cA.gl=c.gl) {o:Operand} {x:E} (hk:dF o (nT x)=true):rK N s c cA x:=by
 cases x with
 |t i=>
   have hl:=Ua i (get s.env i);refine⟨?_,ZM h i,fun k xs e=>?_,fun cs e=>?_⟩
   ·simp only[nT,Am.ev,bC,nO];rw[<-X4];generalize fJ i (get s.env i)=y at hl;cases y<;>first|rfl|simp[bX] at hl
   ·simp only[bC] at e; rw[e] at hl; simp[bX] at hl
   ·simp only[bC] at e; rw[e] at hl; exact hl
 |k a=>
   simp only[nT] at hk;rcases dn_c (alZ hk) with⟨k,rfl,e⟩|⟨hc,e⟩
   ·exact⟨rfl,trivial,fun k' xs e=>by simp only[bC,AV.own.injEq] at e; exact e.2.symm,fun cs e=>by simp[bC] at e⟩
   ·refine⟨?_,ok_c hc,fun k xs e'=>?_,fun cs e'=>?_⟩
    ·simp only[nT,Am.ev,bC,e];have:=tr_c N hc;have hn:=ahf hc;cases a<;>first|exact this.symm|(simp[bX] at hn; done)
    ·simp only[bC] at e'; rw[e'] at hc; simp[isC,xd] at hc
    ·simp only[bC] at e'; rw[e'] at hc; exact Gm hc
 |g i=>exact⟨by simp[nT,Am.ev,bC,ig,df,vQ],trivial,fun k xs e=>by simp[bC] at e,fun cs e=>by simp[bC] at e⟩
theorem rK.int {x:E} (h:rK N s c cA x) {k:IntKind} {n:Int} (e:bC c s.env x=.int k n):Am.ev cA (DQ N s.env) (nT x)=.int k n:=by rw[h.ev,e]; rfl
theorem rK.bool {x:E} (h:rK N s c cA x) {b:Bool} (e:bC c s.env x=.bool b):Am.ev cA (DQ N s.env) (nT x)=.bool b:=by rw[h.ev,e]; rfl
theorem vH (h:fx X φ w N s Ha t) (vQ:cA.gl=c.gl):∀{os:List Operand} {xs:List E},jW os (GD xs)=true->Am.IW cA (DQ N s.env) (GD xs)=ja N (dX c s.env xs)/\lJ (aD s) s.H.length (dX c s.env xs)
 |_,[],_=>⟨rfl,trivial⟩
 |[],x::r,hk=>by simp[GD,jW] at hk
 |o::os,x::r,hk=>by
   simp only[GD,jW,ae] at hk;obtain⟨h1,h2⟩:=vH h vQ hk.2;have h3:=dg (c:=c) h vQ hk.1;exact⟨by simp only[GD,Am.IW,dX,ja,h1,h3.ev],h3.ok,h2⟩
theorem uM (h:fx X φ w N s Ha t) {k:Nat} {p:Rt} {off len:Nat} (ho:c9 (aD s) s.H.length (.eE k p off len)) :
  (∃n,N.ν p=some n/\df N (.eE k p off len)=.sl k n (off*k) len)\/(N.ν p=none/\off=0/\len=0/\df N (.eE k p off len)=.dO):=by
 simp only[c9] at ho;obtain⟨xs,h1,h2⟩:=ho;cases kW:N.ν p with
 |some n=>exact .inl ⟨n,rfl,by simp[df,kW]⟩
 |none=>
   have:=h.own p k xs h1;rw[kW] at this;have hx:xs=[]:=this;subst hx;simp at h2;exact .inr ⟨rfl,h2.1,h2.2,by simp[df,kW]⟩
theorem Kh (h:fx X φ w N s Ha t) {k:Nat} {p:Rt} {i off:Nat} (ho:c9 (aD s) s.H.length (.fP k p i off)):∃n,N.ν p=some n/\df N (.fP k p i off)=.ptr n (i*k+off):=by
 simp only[c9] at ho;obtain⟨xs,h1,h2⟩:=ho;cases kW:N.ν p with
 |some n=>exact⟨n,rfl,by simp[df,kW]⟩
 |none=>
   have:=h.own p k xs h1;rw[kW] at this;have hx:xs=[]:=this;subst hx;simp at h2
end
end Go.Bm

/- Operations that change nothing: the older machine does the same. -/
namespace Go.Bm
open Go.Am
section
variable {P:Program}
theorem alV {op:Op} {y:E} (h:dz P op (.mv y)=true):∃x,dF x y=true:=by
 unfold dz at h; split at h<;>simp_all<;>exact⟨_,h⟩
theorem afw {op:Op} {a b d:E} (h:dz P op (.pick a b d)=true):(∃x,dF x a=true)/\(∃x,dF x b=true)/\∃ x,dF x d=true:=by
 unfold dz at h; split at h<;>simp_all; exact⟨⟨_,h.1.1⟩,⟨_,h.1.2⟩,⟨_,h.2⟩⟩
theorem ahY {op:Op} {y:E} (h:dz P op (.box y)=true):∃x,dF x y=true:=by
 unfold dz at h; split at h<;>simp_all; exact⟨_,h⟩
theorem abX {op:Op} {y:E} (h:dz P op (.nK y)=true):∃x,dF x y=true:=by
 unfold dz at h; split at h<;>simp_all; exact⟨_,h⟩
theorem ahZ {op:Op} {bo:BinOp} {a b:E} (h:dz P op (.bin bo a b)=true):(∃x,dF x a=true)/\∃ x,dF x b=true:=by
 unfold dz at h; split at h<;>simp_all; exact⟨⟨_,h.1.2⟩,⟨_,h.2⟩⟩
theorem alY {op:Op} {ng:Bool} {t:Et} {a b:E} (h:dz P op (.eq ng t a b)=true):(∃x,dF x a=true)/\∃ x,dF x b=true:=by
 unfold dz at h; split at h<;>simp_all; exact⟨⟨_,h.1.2⟩,⟨_,h.2⟩⟩
theorem alT {op:Op} {uo:UnOp} {y:E} (h:dz P op (.un uo y)=true):∃x,dF x y=true:=by
 unfold dz at h; split at h<;>simp_all; exact⟨_,h.2⟩
theorem ahW {op:Op} {k:IntKind} {y:E} (h:dz P op (.HX k y)=true):∃x,dF x y=true:=by
 unfold dz at h; split at h<;>simp_all; exact⟨_,h.2⟩
theorem ahM {op:Op} {fn:Fn} {a b:List E} (h:dz P op (.VP fn a b)=true):(∃x,jW x a=true)/\∃ x,jW x b=true:=by
 unfold dz at h; split at h<;>simp_all; exact⟨⟨_,h.1.2⟩,⟨_,h.2⟩⟩
theorem aaZ {op:Op} {k:Nat} {zs:List AV} {a b:E} (h:dz P op (.KR k zs a b)=true):(∃t,jK P t k=true/\jf P t zs=true)/\(∃x,dF x a=true)/\∃ x,dF x b=true:=by
 unfold dz at h; split at h<;>simp_all; exact⟨⟨_,h.1.1⟩,⟨_,h.1.2⟩,⟨_,h.2⟩⟩
theorem ahU {op:Op} {off:Nat} {y:E} (h:dz P op (.fk off y)=true):∃x,dF x y=true:=by
 unfold dz at h; split at h<;>simp_all; exact⟨_,h.2⟩
theorem aa0 {op:Op} {n:Nat} {y:E} {hi:Option E} (h:dz P op (.Nd n y hi)=true):(∃x,dF x y=true)/\∀ e,hi=some e->∃x,dF x e=true:=by
 unfold dz at h; split at h<;>simp_all
 refine⟨⟨_,h.2.1⟩,fun e he=>?_⟩;subst he; have:=h.2.2; unfold tu at this; split at this<;>simp_all; exact⟨_,this⟩
theorem ahT {op:Op} {off:Nat} {ag:Option Nat} {y:E} (h:dz P op (.fld off ag y)=true):∃x,dF x y=true:=by
 unfold dz at h; split at h<;>simp_all; exact⟨_,h.2⟩
theorem ahS {op:Op} {k:Nat} {a b:E} (h:dz P op (.fm k a b)=true):(∃x,dF x a=true)/\∃ x,dF x b=true:=by
 unfold dz at h; split at h<;>simp_all; exact⟨⟨_,h.1.2⟩,⟨_,h.2⟩⟩
theorem ahR {op:Op} {n k:Nat} {a b:E} (h:dz P op (.Ig n k a b)=true):(∃x,dF x a=true)/\∃ x,dF x b=true:=by
 unfold dz at h; split at h<;>simp_all; exact⟨⟨_,h.1.2⟩,⟨_,h.2⟩⟩
theorem alX {op:Op} {n k:Nat} {ag:Option Nat} {a b:E} (h:dz P op (.ix n k ag a b)=true):(∃x,dF x a=true)/\∃ x,dF x b=true:=by
 unfold dz at h; split at h<;>simp_all; exact⟨⟨_,h.1.2⟩,⟨_,h.2⟩⟩
theorem ahV {op:Op} {i:Nat} {y:E} (h:dz P op (.ext i y)=true):∃x,dF x y=true:=by
 unfold dz at h; split at h<;>simp_all; exact⟨_,h.2⟩
theorem ahQ {op:Op} {tab:List Nat} {y:E} (h:dz P op (.ixs tab y)=true):∃x,dF x y=true:=by
 unfold dz at h; split at h<;>simp_all; exact⟨_,h.2⟩
theorem ahP {op:Op} {y:E} (h:dz P op (.len y)=true):∃x,dF x y=true:=by
 unfold dz at h; split at h<;>simp_all
 split at h<;>simp_all; exact⟨_,h.2⟩
theorem ahN {op:Op} {ys:List E} (h:dz P op (.min ys)=true):∃x,jW x ys=true:=by
 unfold dz at h; split at h<;>simp_all; exact⟨_,h⟩
theorem ahO {op:Op} {ys:List E} (h:dz P op (.max ys)=true):∃x,jW x ys=true:=by
 unfold dz at h; split at h<;>simp_all; exact⟨_,h⟩
theorem ahK {op:Op} {k:Nat} {y:E} {lo hi:Option E} (h:dz P op (.D5 k y lo hi)=true):(∃x,dF x y=true)/\(∀e,lo=some e->∃x,dF x e=true)/\∀ e,hi=some e->∃x,dF x e=true:=by
 unfold dz at h; split at h<;>simp_all
 refine⟨⟨_,h.1.1.2⟩,fun e he=>?_,fun e he=>?_⟩
 ·subst he; have:=h.1.2; unfold tu at this; split at this<;>simp_all; exact⟨_,this⟩
 ·subst he; have:=h.2; unfold tu at this; split at this<;>simp_all; exact⟨_,this⟩
theorem Bi {place:Nat->Option (Nat × Nat)}:∀{ps:List (Nat × Operand)} {qs:List (Nat × Nat × E)},tq place ps qs=true->∀q∈qs,∃x,dF x q.2.2=true
 |[],[],_,q,hq=>by simp at hq
 |[],_::_,h,_,_=>by simp[tq] at h
 |_::_,[],h,_,_=>by simp[tq] at h
 |p::r,q::s,h,q',hq=>by
   simp only[tq,ae] at h;rcases aK.1 hq with e|e
   ·subst e; exact⟨_,h.1.2⟩
   ·exact Bi h.2 q' e
theorem abZ {op:Op} {zs:List AV} {ps:List (Nat × Nat × E)} (h:dz P op (.build zs ps)=true):(∃t,qm P t zs=true)/\∀ q∈ps,∃x,dF x q.2.2=true:=by
 unfold dz at h; split at h<;>simp_all
 obtain⟨h1,h2⟩:=h;refine⟨⟨_,h1⟩,?_⟩;split at h2
 ·simp_all; exact fun a b e hq=>Bi h2.2 (a,b,e) hq
 ·split at h2
  ·exact fun a b e hq=>Bi h2 (a,b,e) hq
  ·cases h2
 ·cases h2
theorem XF {op:Op} {k n:Nat} {zs:List AV} {ps:List (Nat × Nat × E)} (h:dz P op (.dK k n zs ps)=true):(∃t,jK P t k=true/\jf P t zs=true)/\∀ q∈ps,∃x,dF x q.2.2=true:=by
 unfold dz at h; split at h<;>simp_all
 exact⟨⟨_,h.1.1.1.2,h.1.1.2⟩,fun a b e hq=>Bi h.2 (a,b,e) hq⟩
theorem alW {op:Op} {ag:Option Nat} {y:E} (h:dz P op (.ld ag y)=true):∃x,dF x y=true:=by
 unfold dz at h; split at h<;>simp_all; exact⟨_,h.2⟩
theorem alU {op:Op} {k:Nat} {a b:E} (h:dz P op (.st k a b)=true):(∃x,dF x a=true)/\∃ x,dF x b=true:=by
 unfold dz at h; split at h<;>simp_all; exact⟨⟨_,h.1.2⟩,⟨_,h.2⟩⟩
theorem ahL {op:Op} {zs:List AV} (h:dz P op (.new zs)=true):∃t,qm P t zs=true:=by
 unfold dz at h; split at h<;>simp_all; exact⟨_,h⟩
theorem ahX {op:Op} {k:Nat} {zs:List AV} {y:E} (h:dz P op (.Vv k zs y)=true):(∃t,jK P t k=true/\jf P t zs=true)/\∃ x,dF x y=true:=by
 unfold dz at h; split at h<;>simp_all
 split at h<;>simp_all; exact⟨⟨_,h.1.1,h.1.2⟩,⟨_,h.2⟩⟩
theorem aa1 {op:Op} {k:Nat} {a b:E} (h:dz P op (.app k a b)=true):(∃x,dF x a=true)/\∃ x,dF x b=true:=by
 unfold dz at h; split at h<;>simp_all
 split at h<;>simp_all; exact⟨⟨_,h.1.2⟩,⟨_,h.2⟩⟩
theorem Vy {op:Op} {k:Nat} {a b:E} (h:dz P op (.copy k a b)=true):(∃x,dF x a=true)/\∃ x,dF x b=true:=by
 unfold dz at h; split at h<;>simp_all
 split at h<;>simp_all; exact⟨⟨_,h.1.2⟩,⟨_,h.2⟩⟩
theorem uT {t:TypeId} {zs:List AV} (h:qm P t zs=true):ob zs=true/\bG zs=true:=by
 unfold qm at h;split at h
 ·split at h
  ·simp only[ae] at h; exact⟨RS h.1,h.2⟩
  ·cases h
 ·cases h
end
end Go.Bm

/- Operations that change nothing: what they give. -/
set_option linter.unusedVariables false
namespace Go.Bm
open Go.Am
section
variable {P:Program} {X:Nat->Prop} {φ:dQ} {w:World} {N:Names} {s:St} {Ha:Heap} {t:Nat->Value} {c:fe} {cA:Am.fe} {call:Nat->List AV->Heap->Option (AV × Heap)}
theorem uU (N:Names) (cs:List AV):ja N cs=cs.map (ig N):=by
 induction cs with
 |nil=>rfl
 |cons x r ih=>simp[ja,ih]
theorem X6 (N:Names) (cs:List AV):m9 N cs=cs.map (df N):=by
 induction cs with
 |nil=>rfl
 |cons x r ih=>simp[m9,ih]
theorem rK.EO {x:E} (h:rK N s c cA x):EO (bC c s.env x):=by
 cases e:bC c s.env x<;>simp only[Go.Bm.EO]
 ·rename_i cs;intro j k xs hj;exfalso;have:=h.na cs e;clear e
  induction cs generalizing j with
  |nil=>simp at hj
  |cons y r ih=>
    cases j with
    |zero=>simp at hj; subst hj; simp[bZ] at this
    |succ j=>exact ih j (by simpa using hj) (by cases y<;>simp[bZ] at this<;>exact this)
 ·exact h.eo _ _ e
theorem rK.evQ {x:E} (h:rK N s c cA x):Am.ev cA (DQ N s.env) (nT x)=yT N (bC c s.env x):=by rw[h.ev,af2 N h.na]
theorem Re (h:fx X φ w N s Ha t) {x:AV} (hl:x.leaf=true) (hk:c9 (aD s) s.H.length x):(ig N x).leaf=true:=by
 cases x<;>first|rfl|(simp[AV.leaf] at hl; done)|skip
 ·rename_i k p off len;simp only[ig,df];cases N.ν p<;>rfl
 ·rename_i k p i off;obtain⟨n,_,e⟩:=Kh h hk;simp only[ig,e,AV.leaf]
theorem xw (h:fx X φ w N s Ha t):∀{cs:List AV},bG cs=true->lJ (aD s) s.H.length cs->bG (ja N cs)=true
 |[],_,_=>rfl
 |x::r,hl,hk=>by
   simp only[bG,ae] at hl;simp only[ja,bG,ae];exact⟨Re h hl.1 hk.1,xw h hl.2 hk.2⟩
theorem LV (N:Names) {x:AV} (hn:∀cs,x=.agg cs->bZ cs=false):(ig N x).cells=ja N x.cells:=by
 cases x<;>first|rfl|skip
 ·rename_i cs; simp only[ig,df,AV.cells]; rw[lV N (hn cs rfl)]
 ·rename_i k p off len;simp only[ig,df,AV.cells,ja];cases N.ν p<;>rfl
 ·rename_i k p i off;simp only[ig,df,AV.cells,ja];cases N.ν p<;>rfl
theorem zR {o:Rt->Option (Nat × List AV)} {nb:Nat} {x:AV} (h:c9 o nb x):lJ o nb x.cells:=by
 cases x<;>first|exact⟨h,trivial⟩|exact h
theorem TN {o:Rt->Option (Nat × List AV)} {nb n:Nat} {cs:List AV} (h:lJ o nb cs):lJ o nb (cs.take n):=
 hZ.2 fun i c hc=>hZ.1 h i c (by rw[bN] at hc; split at hc; exact hc; cases hc)
theorem EJ {o:Rt->Option (Nat × List AV)} {nb n:Nat} {cs:List AV} (h:lJ o nb cs):lJ o nb (cs.drop n):=
 hZ.2 fun i c hc=>hZ.1 h (n+i) c (by rw[br] at hc; exact hc)
theorem s8 {o:Rt->Option (Nat × List AV)} {nb:Nat}:∀{cs ds:List AV},lJ o nb cs->lJ o nb ds->lJ o nb (cs++ds)
 |[],_,_,h=>h
 |x::r,_,h,k=>⟨h.1,s8 h.2 k⟩
theorem agS {o:Rt->Option (Nat × List AV)} {nb off:Nat} {cs ds:List AV} (h:lJ o nb cs) (k:lJ o nb ds):lJ o nb (kg cs off ds):=s8 (s8 (TN h) k) (EJ h)
theorem ajE (N:Names) (cs ds:List AV) (off:Nat):ja N (kg cs off ds)=kg (ja N cs) off (ja N ds):=by
 simp only[uU,kg,List.map_append,List.map_take,List.map_drop,jQ]
def EOL (cs:List AV):Prop:=∀(j k:Nat) (xs:List AV),cs[j]?=some (.own k xs)->xs=[]
theorem EOL.kg {cs ds:List AV} {off:Nat} (h:EOL cs) (k:EOL ds):EOL (Am.kg cs off ds):=by
 intro j kk xs hj;have:=bt hj;simp only[Am.kg,aG] at this
 have mem:∀{l:List AV},EOL l->(.own kk xs)∈l->xs=[]:=fun hl hm=>by
  obtain⟨i,hi⟩:=bH hm;exact hl i _ _ hi
 rcases this with (hm|hm)|hm
 ·exact mem h (dA hm)
 ·exact mem k hm
 ·exact mem h (dB hm)
theorem rK.EOL {x:E} (h:rK N s c cA x):EOL (bC c s.env x).cells:=by
 have he:=h.EO;cases e:bC c s.env x<;>rw[e] at he<;>simp only[AV.cells]<;>first|exact he|skip
 all_goals
  intro j k xs hj;cases j with
  |zero=>simp at hj<;>exact hj.2▸(by first|exact he|exact he)
  |succ j=>simp at hj
theorem ua (h:fx X φ w N s Ha t) (vQ:cA.gl=c.gl):∀{ps:List (Nat × Nat × E)} {zs cs:List AV},(∀q∈Vk ps,∃x,dF x q.2.2=true)->lJ (aD s) s.H.length zs->EOL zs->rO c s.env zs ps=some cs ->
  qa cA (DQ N s.env) (ja N zs) (Vk ps)=some (ja N cs)/\lJ (aD s) s.H.length cs/\EOL cs/\cs.length=zs.length
 |[],zs,cs,_,hz,he,hf=>by simp[rO] at hf; subst hf; exact⟨rfl,hz,he,rfl⟩
 |(off,sz,x)::r,zs,cs,hq,hz,he,hf=>by
   simp only[rO] at hf;split at hf
   case isFalse=>cases hf
   rename_i hc;obtain⟨c1,c2,c3⟩:=hc;obtain⟨o,ho⟩:=hq (off,sz,nT x) (by simp[Vk]);have hx:=dg (c:=c) (cA:=cA) h vQ ho;have kQ:=LV N hx.na;obtain⟨k1,k2,k3,k4⟩:=ua h vQ (ps:=r) (fun q hq'=>hq q (by simp[Vk,hq'])) (agS hz (zR hx.ok)) (he.kg hx.EOL) hf;refine⟨?_,k2,k3,?_⟩
   ·simp only[Vk,qa,hx.ev,kQ];rw[if_pos ⟨by rw[jU]; exact c1,by rw[jU]; exact c2,xw h c3 (zR hx.ok)⟩,<-ajE];exact k1
   ·rw[k4]; exact ib (by omega)
theorem Fl (N:Names):∀{zs:List AV},ob (xm zs)=true->xm zs=ja N zs/\EOL zs
 |[],_=>⟨rfl,fun j k xs h=>by simp at h⟩
 |x::r,h=>by
   simp only[xm,ob,ae] at h;obtain⟨h1,h2⟩:=Fl N h.2;rcases dn_c (EZ h.1) with⟨k,rfl,e⟩|⟨hc,e⟩
   ·refine⟨by simp only[xm,ja,h1,e,ig],fun j k xs hj=>?_⟩;cases j with
    |zero=>simp at hj; exact hj.2
    |succ j=>exact h2 j k xs (by simpa using hj)
   ·rw[e] at h;refine⟨?_,fun j k xs hj=>?_⟩
    ·simp only[xm,ja,h1,e];congr 1;have:=ach N h.1;cases x<;>first|exact this.symm|(simp[xd] at h; done)
    ·cases j with
     |zero=>simp at hj; subst hj; simp[xd] at h
     |succ j=>exact h2 j k xs (by simpa using hj)
theorem EF {o:Rt->Option (Nat × List AV)} {nb:Nat}:∀{zs:List AV},ob (xm zs)=true->lJ o nb zs
 |[],_=>trivial
 |x::r,h=>by
   simp only[xm,ob,ae] at h;rcases dn_c (EZ h.1) with⟨k,rfl,e⟩|⟨hc,e⟩
   ·exact⟨trivial,EF h.2⟩
   ·exact⟨ok_c hc,EF h.2⟩
theorem Xp (N:Names):∀{l:List Bool} {xs ys:List AV} {e:Bool},Fi l xs ys=some e->Fi l (ja N xs) (ja N ys)=some e
 |[],[],[],e,h=>h
 |true::l,x::r,y::s,e,h=>by
   cases x<;>try (simp[Fi] at h; done)
   cases y<;>try (simp[Fi] at h; done)
   simp only[Fi,ja,ig,df] at h ⊢;split at h
   ·rename_i hk;rw[if_pos hk];split at h
    ·rename_i e' he;rw[Xp N he];exact h
    ·cases h
   ·cases h
 |false::l,x::r,y::s,e,h=>by
   cases x<;>try (simp[Fi] at h; done)
   cases y<;>try (simp[Fi] at h; done)
   simp only[Fi,ja,ig,df] at h ⊢;split at h
   ·rename_i e' he;rw[Xp N he];exact h
   ·cases h
 |[],x::r,ys,e,h=>by simp[Fi] at h
 |[],[],y::s,e,h=>by simp[Fi] at h
 |b::l,[],ys,e,h=>by cases b<;>simp[Fi] at h
 |b::l,x::r,[],e,h=>by cases b<;>cases x<;>simp[Fi] at h
theorem Z8 (N:Names) (mx:Bool):∀{xs:List AV} {x v:AV},zX mx x xs=some v->(∃k n,x=.int k n)->zX mx x (ja N xs)=some v/\∃ k n,v=.int k n
 |[],x,v,h,hx=>by simp[zX] at h; subst h; exact⟨rfl,hx⟩
 |y::r,x,v,h,hx=>by
   obtain⟨k,n,rfl⟩:=hx;cases y<;>try (simp[zX] at h; done)
   simp only[zX,ja,ig,df] at h ⊢;exact Z8 N mx h ⟨_,_,rfl⟩
theorem Z9 (N:Names) {mx:Bool} {xs:List AV} {v:AV} (h:uJ mx xs=some v):uJ mx (ja N xs)=some v/\∃ k n,v=.int k n:=by
 cases xs with
 |nil=>simp[uJ] at h
 |cons y r=>
   cases y<;>try (simp[uJ] at h; done)
   simp only[uJ,ja,ig,df] at h ⊢;exact Z8 N mx h ⟨_,_,rfl⟩
theorem aie {op:BinOp} {x y v:AV} (h:kr op x y=some v):(∃k n,x=.int k n)/\(∃k n,y=.int k n)/\((∃k n,v=.int k n)\/∃ b,v=.bool b):=by
 unfold kr at h;split at h
 case h_2=>cases h
 refine⟨⟨_,_,rfl⟩,⟨_,_,rfl⟩,?_⟩;split at h
 ·split at h
  ·cases h
  ·simp at h; exact .inl ⟨_,_,h.symm⟩
 ·split at h
  ·cases h
  ·simp at h; exact .inl ⟨_,_,h.symm⟩
 ·split at h
  ·unfold arith at h
   split at h<;>first
    |(simp at h; exact .inl ⟨_,_,h.symm⟩)
    |(simp at h; exact .inr ⟨_,h.symm⟩)
    | (split at h
       ·cases h
       ·simp at h; exact .inl ⟨_,_,h.symm⟩)
    |cases h
  ·cases h
theorem SH {v:AV} (h:(∃k n,v=.int k n)\/∃ b,v=.bool b) (o:Rt->Option (Nat × List AV)) (nb:Nat):yT N v=v/\c9 o nb v/\EO v:=by
 rcases h with⟨k,n,rfl⟩|⟨b,rfl⟩<;>exact⟨rfl,trivial,trivial⟩
theorem Wu (N:Names) {ag:Option Nat} {cs:List AV} {v:AV} {o:Rt->Option (Nat × List AV)} {nb:Nat} (h:P9 ag cs=some v) (hk:lJ o nb cs):FN ag (m9 N cs)=some (yT N v)/\c9 o nb v/\EO v/\bX v=false:=by
 unfold P9 at h;split at h
 case h_2=>cases h
 rename_i v' hr;split at h
 ·cases h
 rename_i ho;simp at h ho;subst h
 have he:EO v':=by
  cases v'<;>simp only[EO]<;>try (simp[bX] at ho; done)
  rename_i ds;intro j k xs hj;exfalso;simp only[bX] at ho;clear hr
  induction ds generalizing j with
  |nil=>simp at hj
  |cons y r ih=>
    cases j with
    |zero=>simp at hj; subst hj; simp[bZ] at ho
    |succ j=>exact ih (by cases y<;>simp[bZ] at ho<;>exact ho) j (by simpa using hj)
 unfold FN at hr ⊢;cases ag with
 |some k=>
   simp only at hr ⊢;split at hr
   case isFalse=>cases hr
   rename_i hle;simp at hr;subst hr;rw[if_pos (by rw[eG]; exact hle),mg N ho];exact⟨by simp only[df,X6,List.map_take],TN hk,he,ho⟩
 |none=>
   simp only at hr ⊢;cases cs with
   |nil=>cases hr
   |cons x r=>
     simp at hr;subst hr;rw[mg N ho];exact⟨by simp[m9],hk.1,he,ho⟩
theorem Jg (N:Names) (cs:List AV) (n:Nat):(m9 N cs).drop n=m9 N (cs.drop n):=by simp only[X6,List.map_drop]
end
end Go.Bm

/- Operations that change nothing: the older machine does the same. -/
namespace Go.Bm
open Go.Am
section
variable {P:Program} {X:Nat->Prop} {φ:dQ} {w:World} {N:Names} {s:St} {Ha:Heap} {t:Nat->Value} {c:fe} {cA:Am.fe} {call:Nat->List AV->Heap->Option (AV × Heap)}
theorem XH (h:fx X φ w N s Ha t) (vQ:cA.gl=c.gl) {d m n:Nat} {x:Option E} (hk:∀e,dnO x=some e->∃o,dF o e=true) (hb:DK c s.env d m x=some n):Ft cA (DQ N s.env) d m (dnO x)=some n:=by
 cases x with
 |none=>exact hb
 |some x=>
   obtain⟨o,ho⟩:=hk _ rfl;simp only[DK] at hb;simp only[dnO,Ft];cases e:bC c s.env x<;>rw[e] at hb<;>try (simp[bnd] at hb; done)
   rw[(dg (c:=c) (cA:=cA) h vQ ho).int e];exact hb
theorem Gr {x:AV} {n m:Nat} (h:idx x n=some m):∃k i,x=.int k i/\idx (.int k i) n=some m/\m<n:=by
 unfold idx at h;split at h
 ·rename_i k i;refine⟨k,i,rfl,h,?_⟩;split at h
  ·simp at h; omega
  ·cases h
 ·cases h
theorem aae (h:fx X φ w N s Ha t) {x:E} (hx:rK N s c cA x) {n:Nat} (hl:xb (bC c s.env x)=some n):lenA (Am.ev cA (DQ N s.env) (nT x))=some n:=by
 rw[hx.ev];have hk:=hx.ok;cases e:bC c s.env x<;>rw[e] at hl hk<;>try (simp[xb] at hl; done)
 ·exact hl
 ·exact hl
 ·exact hl
 ·rename_i k xs;have:=hx.eo k xs e;subst this;exact hl
 ·rename_i k p off len;simp only[xb] at hl;cases hl;simp only[ig];rcases uM h hk with⟨m,_,e2⟩|⟨_,_,rfl,e2⟩<;>rw[e2]<;>rfl
theorem akC (h:fx X φ w N s Ha t) (vQ:cA.gl=c.gl) {op:Op} {kd:Kd} {v:AV} (hk:dz P op (nS kd)=true) (hs:WE c s.env kd=some v) :
  gU cA call (DQ N s.env) Ha (nS kd)=some (yT N v,Ha,.no)/\c9 (aD s) s.H.length v/\EO v:=by
 cases kd<;>simp only[WE,reduceCtorEq] at hs<;>simp only[nS] at hk ⊢
 case mv x=>
  obtain⟨o,ho⟩:=alV hk;have hx:=dg (c:=c) (cA:=cA) h vQ ho;simp at hs;subst hs;exact⟨by simp only[gU,hx.evQ],hx.ok,hx.EO⟩
 case pick x a b=>
  obtain⟨⟨o1,h1⟩,⟨o2,h2⟩,o3,h3⟩:=afw hk;have hx:=dg (c:=c) (cA:=cA) h vQ h1;have ha:=dg (c:=c) (cA:=cA) h vQ h2;have hb:=dg (c:=c) (cA:=cA) h vQ h3;split at hs
  case h_2=>cases hs
  rename_i b' he;simp at hs;subst hs;simp only[gU,hx.bool he];cases b'
  ·exact⟨by simp[hb.evQ],by simpa using hb.ok,by simpa using hb.EO⟩
  ·exact⟨by simp[ha.evQ],by simpa using ha.ok,by simpa using ha.EO⟩
 case build zs ps=>
  obtain⟨⟨t,ht⟩,hq⟩:=abZ hk;obtain⟨e1,e2⟩:=Fl N (uT ht).1;split at hs
  case h_2=>cases hs
  rename_i cs hf;simp at hs;subst hs;obtain⟨k1,k2,k3,k4⟩:=ua (cA:=cA) h vQ hq (EF (uT ht).1) e2 hf;rw[e1];exact⟨by simp only[gU,k1,yT],k2,k3⟩
 case nK x=>
  obtain⟨o,ho⟩:=abX hk;have hx:=dg (c:=c) (cA:=cA) h vQ ho;have dG:=hx.ok;simp only[gU,hx.ev];cases e:bC c s.env x<;>rw[e] at hs dG<;>try (simp at hs; done)
  ·simp at hs; subst hs; exact⟨rfl,trivial,trivial⟩
  ·simp at hs; subst hs; exact⟨rfl,dG,trivial⟩
  ·rename_i f a b;cases f<;>simp at hs
   subst hs;exact⟨rfl,dG,trivial⟩
 case bin op' x y=>
  obtain⟨⟨o1,h1⟩,o2,h2⟩:=ahZ hk;have hx:=dg (c:=c) (cA:=cA) h vQ h1;have hy:=dg (c:=c) (cA:=cA) h vQ h2;obtain⟨⟨k1,n1,e1⟩,⟨k2,n2,e2⟩,hv⟩:=aie hs;obtain⟨q1,q2,q3⟩:=SH (N:=N) hv (aD s) s.H.length;rw[e1,e2] at hs;simp only[gU,hx.int e1,hy.int e2,hs,q1];exact⟨trivial,q2,q3⟩
 case eq ng et x y=>
  obtain⟨⟨o1,h1⟩,o2,h2⟩:=alY hk;have hx:=dg (c:=c) (cA:=cA) h vQ h1;have hy:=dg (c:=c) (cA:=cA) h vQ h2;split at hs
  case h_2=>cases hs
  rename_i e he;simp at hs;subst hs;refine⟨?_,trivial,trivial⟩
  have:eqA et (Am.ev cA (DQ N s.env) (nT x)) (Am.ev cA (DQ N s.env) (nT y))=some e:=by
   rw[hx.ev,hy.ev];have hxk:=hx.ok;unfold eqB at he;split at he
   ·rename_i a b e1 e2; rw[e1,e2]; exact he
   ·rename_i l xs ys e1 e2;have n1:=hx.na _ e1;have n2:=hy.na _ e2;rw[e1,e2];simp only[ig,df,eqA];rw[<-lV N n1,<-lV N n2];exact Xp N he
   ·rename_i z k e2;rw[e2];simp only[ig];cases e1:bC c s.env x<;>rw[e1] at he hxk<;>try (simp[iZ] at he; done)
    ·simpa[iZ,eqA,isNil,ig,df] using he
    ·rename_i k' xs;cases xs with
     |nil=>simp[iZ] at he
     |cons u r=>simpa[iZ,eqA,isNil,ig,df] using he
    ·simpa[iZ,eqA,isNil,ig,df] using he
    ·rename_i k' p off len;simp only[iZ] at he;split at he
     ·cases he
     ·rename_i hlen;simp at he;subst he;simp only;rcases uM h hxk with⟨m,_,e3⟩|⟨_,_,h0,_⟩
      ·rw[e3]; rfl
      ·exact absurd h0 hlen
   ·rename_i z e2;rw[e2];simp only[ig];cases e1:bC c s.env x<;>rw[e1] at he hxk<;>try (simp[iZ] at he; done)
    ·simpa[iZ,eqA,isNil,ig,df] using he
    ·rename_i k' xs;cases xs with
     |nil=>simp[iZ] at he
     |cons u r=>simpa[iZ,eqA,isNil,ig,df] using he
    ·simpa[iZ,eqA,isNil,ig,df] using he
    ·rename_i k' p off len;simp only[iZ] at he;split at he
     ·cases he
     ·rename_i hlen;simp at he;subst he;simp only;rcases uM h hxk with⟨m,_,e3⟩|⟨_,_,h0,_⟩
      ·rw[e3]; rfl
      ·exact absurd h0 hlen
   ·rename_i z e2;rw[e2];cases e1:bC c s.env x<;>rw[e1] at he<;>try (simp[iZ] at he; done)
    all_goals simpa[iZ,eqA,isNil,ig,df] using he
   ·rename_i z e2;rw[e2];cases e1:bC c s.env x<;>rw[e1] at he<;>try (simp[iZ] at he; done)
    all_goals simpa[iZ,eqA,isNil,ig,df] using he
   ·cases he
  simp only[gU,this,yT,df]
 case un uo x=>
  obtain⟨o,ho⟩:=alT hk;have hx:=dg (c:=c) (cA:=cA) h vQ ho;simp only[gU,hx.ev];cases e:bC c s.env x<;>rw[e] at hs<;>try (cases uo<;>simp[We] at hs; done)
  ·have:(∃k n,v=.int k n)\/∃ b,v=.bool b:=by
    cases uo<;>simp[We] at hs
    ·exact .inl ⟨_,_,hs.symm⟩
    ·exact .inl ⟨_,_,hs.symm⟩
   obtain⟨q1,q2,q3⟩:=SH (N:=N) this (aD s) s.H.length;simp only[ig,df,hs,q1];exact⟨trivial,q2,q3⟩
  ·have:(∃k n,v=.int k n)\/∃ b,v=.bool b:=by
    cases uo<;>simp[We] at hs
    exact .inr ⟨_,hs.symm⟩
   obtain⟨q1,q2,q3⟩:=SH (N:=N) this (aD s) s.H.length;simp only[ig,df,hs,q1];exact⟨trivial,q2,q3⟩
 case HX k x=>
  obtain⟨o,ho⟩:=ahW hk;have hx:=dg (c:=c) (cA:=cA) h vQ ho;split at hs
  case h_2=>cases hs
  rename_i k' n e;simp at hs;subst hs;simp only[gU,hx.int e];exact⟨rfl,trivial,trivial⟩
 case VP fn a b=>
  obtain⟨⟨o1,h1⟩,o2,h2⟩:=ahM hk;obtain⟨a1,a2⟩:=vH (cA:=cA) h vQ h1;obtain⟨b1,b2⟩:=vH (cA:=cA) h vQ h2;split at hs
  ·cases hs
  rename_i ho;simp at hs ho;subst hs
  have sp:∀{xs ys:List AV},bZ (xs++ys)=false->bZ xs=false/\bZ ys=false:=by
   intro xs
   induction xs with
   |nil=>intro ys h; exact⟨rfl,h⟩
   |cons z r ih=>
     intro ys h;cases z<;>simp[bZ] at h ⊢<;>exact ih h
  obtain⟨p1,p2⟩:=sp ho;refine⟨?_,⟨a2,b2⟩,trivial⟩;simp only[gU,a1,b1,yT,df,lV N p1,lV N p2]
 case D5 k x lo hi=>
  obtain⟨⟨o,ho⟩,h1,h2⟩:=ahK hk;have hx:=dg (c:=c) (cA:=cA) h vQ ho;have dG:=hx.ok;split at hs
  case h_2=>cases hs
  rename_i n hn;split at hs
  case h_2=>cases hs
  rename_i hh hhh;split at hs
  case h_2=>cases hs
  rename_i l hl;have g1:=aae h hx hn;have g2:=XH h vQ h2 hhh;have g3:=XH h vQ h1 hl
  have bb:∀{d m n:Nat} {x:Option E},DK c s.env d m x=some n->d<=m->n<=m:=by
   intro d m n x hb hd;cases x with
   |none=>simp[DK] at hb; omega
   |some x=>
     simp only[DK] at hb;unfold bnd at hb;split at hb
     ·split at hb
      ·simp at hb; omega
      ·cases hb
     ·cases hb
  have l1:=bb hhh (aY _);have l2:=bb hl (Nat.zero_le _);simp only[gU,g1,g2,g3];rw[hx.ev];cases e:bC c s.env x<;>rw[e] at hs dG hn<;>try (simp at hs; done)
  ·rename_i k' xs;simp only at hs;split at hs
   case isFalse=>cases hs
   rename_i wc;simp at hs;subst hs;simp only[ig,df];rw[if_pos wc];exact⟨rfl,trivial,trivial⟩
  ·rename_i k' b off len;simp only at hs;split at hs
   case isFalse=>cases hs
   rename_i wc;simp at hs;subst hs;simp only[ig,df];rw[if_pos wc];exact⟨rfl,dG,trivial⟩
  ·rename_i k' xs;have:=hx.eo k' xs e;subst this;simp only at hs;split at hs
   case isFalse=>cases hs
   simp at hs;subst hs;exact⟨rfl,trivial,rfl⟩
  ·rename_i k' p off len;simp only at hs;split at hs
   case isFalse=>cases hs
   rename_i wc;subst wc;simp at hs;subst hs;simp only[xb,ai] at hn;subst hn
   have hok2:c9 (aD s) s.H.length (.eE k' p (off+l) (hh-l)):=by
    simp only[c9] at dG ⊢;obtain⟨xs,e1,e2⟩:=dG;exact⟨xs,e1,by omega⟩
   refine⟨?_,hok2,trivial⟩;simp only[ig];rcases uM h dG with⟨m,hm,e3⟩|⟨hm,e0,e1,e3⟩
   ·rw[e3];simp only[if_true,yT,df,hm,cT]
   ·rw[e3];simp only[yT,df,hm]
 case fk off x=>
  obtain⟨o,ho⟩:=ahU hk;have hx:=dg (c:=c) (cA:=cA) h vQ ho;have dG:=hx.ok;simp only[gU,hx.ev];cases e:bC c s.env x<;>rw[e] at hs dG<;>try (simp at hs; done)
  ·simp at hs; subst hs; exact⟨rfl,trivial,trivial⟩
  ·simp at hs; subst hs; exact⟨rfl,dG,trivial⟩
  ·rename_i k p i o';simp at hs;subst hs;have hok2:c9 (aD s) s.H.length (.fP k p i (o'+off)):=dG;refine⟨?_,hok2,trivial⟩;obtain⟨m,hm,e2⟩:=Kh h dG;simp only[ig,yT,df,hm,Nat.add_assoc]
 case Nd n x hi=>
  cases hi with
  |some y=>simp at hs
  |none=>
  obtain⟨⟨o,ho⟩,_⟩:=aa0 hk;have hx:=dg (c:=c) (cA:=cA) h vQ ho;have dG:=hx.ok;simp only[gU,hx.ev,dnO,Ft];simp only at hs;cases e:bC c s.env x<;>rw[e] at hs dG<;>try (simp at hs; done)
  rename_i cs;simp only at hs;split at hs
  case isFalse=>cases hs
  rename_i hc;simp at hs;subst hs;simp only[ig,df];rw[if_pos ⟨hc.1,trivial,hc.2⟩];exact⟨rfl,trivial,trivial⟩
 case fld off ag x=>
  obtain⟨o,ho⟩:=ahT hk;have hx:=dg (c:=c) (cA:=cA) h vQ ho;have dG:=hx.ok;simp only[gU,hx.ev];cases e:bC c s.env x<;>rw[e] at hs dG<;>try (simp at hs; done)
  rename_i cs;simp only at hs;obtain⟨r1,r2,r3,_⟩:=Wu N hs (EJ (n:=off) dG);simp only[ig,df,Jg,r1];exact⟨trivial,r2,r3⟩
 case fm k x i=>
  obtain⟨⟨o1,h1⟩,o2,h2⟩:=ahS hk;have hx:=dg (c:=c) (cA:=cA) h vQ h1;have hi:=dg (c:=c) (cA:=cA) h vQ h2;have dG:=hx.ok;simp only[gU,hx.ev];cases e:bC c s.env x<;>rw[e] at hs dG<;>try (simp at hs; done)
  ·rename_i k' xs;simp only at hs;split at hs
   case h_2=>cases hs
   rename_i j hj;obtain⟨ki,ni,e2,Sl,_⟩:=Gr hj;split at hs
   case isFalse=>cases hs
   rename_i wc;split at hs
   case h_2=>cases hs
   rename_i u hu;simp at hs;subst hs;simp only[ig,df,hi.int e2,Sl,if_pos wc,hu];exact⟨rfl,trivial,trivial⟩
  ·rename_i k' b off len;simp only at hs;split at hs
   case h_2=>cases hs
   rename_i j hj;obtain⟨ki,ni,e2,Sl,_⟩:=Gr hj;split at hs
   case isFalse=>cases hs
   rename_i wc;simp at hs;subst hs;simp only[ig,df,hi.int e2,Sl,if_pos wc];exact⟨rfl,dG,trivial⟩
  ·rename_i k' p off len;simp only at hs;split at hs
   case h_2=>cases hs
   rename_i j hj;obtain⟨ki,ni,e2,Sl,bD⟩:=Gr hj;split at hs
   case isFalse=>cases hs
   rename_i wc;subst wc;simp at hs;subst hs;simp only[ig];rcases uM h dG with⟨m,hm,e3⟩|⟨_,_,h0,_⟩
   ·rw[e3];simp only[hi.int e2,Sl,if_true,yT,df,hm,cT,Nat.add_zero];refine⟨trivial,?_,trivial⟩;simp only[c9] at dG ⊢;obtain⟨xs,q1,q2⟩:=dG;exact⟨xs,q1,by omega⟩
   ·omega
 case Ig n k x i=>
  obtain⟨⟨o1,h1⟩,o2,h2⟩:=ahR hk;have hx:=dg (c:=c) (cA:=cA) h vQ h1;have hi:=dg (c:=c) (cA:=cA) h vQ h2;have dG:=hx.ok;split at hs
  case h_2=>cases hs
  rename_i j hj;obtain⟨ki,ni,e2,Sl,_⟩:=Gr hj;simp only[gU,hi.int e2,Sl,hx.ev];cases e:bC c s.env x<;>rw[e] at hs dG<;>try (simp at hs; done)
  ·simp at hs; subst hs; exact⟨rfl,trivial,trivial⟩
  ·simp at hs; subst hs; exact⟨rfl,dG,trivial⟩
  ·rename_i k' p l off;simp at hs;subst hs;have hok2:c9 (aD s) s.H.length (.fP k' p l (off+j*k)):=dG;refine⟨?_,hok2,trivial⟩;obtain⟨m,hm,e3⟩:=Kh h dG;simp only[ig,yT,df,hm,Nat.add_assoc]
 case ix n k ag x i=>
  obtain⟨⟨o1,h1⟩,o2,h2⟩:=alX hk;have hx:=dg (c:=c) (cA:=cA) h vQ h1;have hi:=dg (c:=c) (cA:=cA) h vQ h2;have dG:=hx.ok;split at hs
  case h_2=>cases hs
  rename_i j hj;obtain⟨ki,ni,e2,Sl,_⟩:=Gr hj;simp only[gU,hi.int e2,Sl,hx.ev];cases e:bC c s.env x<;>rw[e] at hs dG<;>try (simp at hs; done)
  rename_i cs;simp only at hs;obtain⟨r1,r2,r3,_⟩:=Wu N hs (EJ (n:=j*k) dG);simp only[ig,df,Jg,r1];exact⟨trivial,r2,r3⟩
 case ext i x=>
  obtain⟨o,ho⟩:=ahV hk;have hx:=dg (c:=c) (cA:=cA) h vQ ho;have dG:=hx.ok;simp only[gU,hx.ev];cases e:bC c s.env x<;>rw[e] at hs dG<;>try (simp at hs; done)
  rename_i vs;simp only at hs;split at hs
  case h_2=>cases hs
  rename_i u hu;split at hs
  ·cases hs
  rename_i iS;simp at hs iS;subst hs;simp only[ig,df,nE,hu,dE];refine⟨by rw[mg N iS],hZ.1 dG i u hu,?_⟩;cases u<;>simp only[EO]<;>try (simp[bX] at iS; done)
  rename_i ds;intro j k xs hj;exfalso;simp only[bX] at iS;clear hu
  induction ds generalizing j with
  |nil=>simp at hj
  |cons y r ih=>
    cases j with
    |zero=>simp at hj; subst hj; simp[bZ] at iS
    |succ j=>exact ih (by cases y<;>simp[bZ] at iS<;>exact iS) j (by simpa using hj)
 case ixs tab i=>
  obtain⟨o,ho⟩:=ahQ hk;have hi:=dg (c:=c) (cA:=cA) h vQ ho;split at hs
  case h_2=>cases hs
  rename_i j hj;obtain⟨ki,ni,e2,Sl,_⟩:=Gr hj;split at hs
  case h_2=>cases hs
  rename_i u hu;simp at hs;subst hs;simp only[gU,hi.int e2,Sl,hu];exact⟨rfl,trivial,trivial⟩
 case len x=>
  obtain⟨o,ho⟩:=ahP hk;have hx:=dg (c:=c) (cA:=cA) h vQ ho;split at hs
  case h_2=>cases hs
  rename_i n hn;simp at hs;subst hs;simp only[gU,aae h hx hn];exact⟨rfl,trivial,trivial⟩
 case min xs=>
  obtain⟨o,ho⟩:=ahN hk;obtain⟨a1,a2⟩:=vH (cA:=cA) h vQ ho;obtain⟨m1,m2⟩:=Z9 N hs;obtain⟨q1,q2,q3⟩:=SH (N:=N) (.inl m2) (aD s) s.H.length;simp only[gU,a1,m1,q1];exact⟨trivial,q2,q3⟩
 case max xs=>
  obtain⟨o,ho⟩:=ahO hk;obtain⟨a1,a2⟩:=vH (cA:=cA) h vQ ho;obtain⟨m1,m2⟩:=Z9 N hs;obtain⟨q1,q2,q3⟩:=SH (N:=N) (.inl m2) (aD s) s.H.length;simp only[gU,a1,m1,q1];exact⟨trivial,q2,q3⟩
end
end Go.Bm

/- A value in hand; operations that read and make. -/
namespace Go.Bm
open Go.Am
section
variable {P:Program} {X:Nat->Prop} {φ:dQ} {w:World} {N N':Names} {s:St} {Ha:Heap} {t t':Nat->Value} {B:Nat->Nat} {base:Nat} {v:AV} {v':Value}
theorem Jf (fy:N'.β=N.β) {x:AV} (h:∀p∈aU x,N'.ν p=N.ν p):df N' x=df N x:=by
 have e:=acf (N:=N) (N':=N') (m:=id) (g:=fun y=>y) fy (fun _ _ _ _=>⟨rfl,rfl⟩) x h;have:cZ (fun y=>y) x=x:=tX (m:=id) (fun _ _ _ _=>⟨rfl,rfl⟩) x (fun _ _=>rfl)
 rwa [this] at e
theorem Nt (fy:N'.β=N.β) {r:Rt} {x:AV} (hr:∀k xs,x=.own k xs->N'.ν r=N.ν r) (h:∀p∈aU x,N'.ν p=N.ν p):kf N' r x=kf N r x:=by
 have e:=Ch (N:=N) (N':=N') (m:=id) (g:=fun y=>y) fy (fun _ _ _ _=>⟨rfl,rfl⟩) (r:=r) (r':=r) hr h;have:cZ (fun y=>y) x=x:=tX (m:=id) (fun _ _ _ _=>⟨rfl,rfl⟩) x (fun _ _=>rfl)
 rwa [this] at e
theorem abi (fy:N'.β=N.β) {i:Nat} {x:AV} (h1:N'.ν (.s i)=N.ν (.s i)) (h2:∀j,N'.ν (.sc i j)=N.ν (.sc i j)) (h:∀p∈aU x,N'.ν p=N.ν p):lK N' i x=lK N i x:=by
 have e:=PV (N:=N) (N':=N') (m:=id) (g:=fun y=>y) fy (fun _ _ _ _=>⟨rfl,rfl⟩) (i:=i) (i':=i) h1 h2 h;have:cZ (fun y=>y) x=x:=tX (m:=id) (fun _ _ _ _=>⟨rfl,rfl⟩) x (fun _ _=>rfl)
 rwa [this] at e
theorem fx.eE (h:fx X φ w N s Ha t) {r:Rt} {x:AV} (hx:at_ s r=some x):∀p∈aU x,(aD s p).isSome:=FW x (h.EH hx)
theorem amc {i:Nat} (hi:get s.env i=.any) {q:Rt} (hq:bJ i q=false):at_ ⟨put s.env i v,s.H⟩ q=at_ s q:=by
 cases q with
 |s j=>simp only[bJ,decide_eq_false_iff_not] at hq; simp[at_,bM,hq]
 |sc j l=>simp only[bJ,decide_eq_false_iff_not] at hq; simp[at_,bM,hq]
 |c b j=>rfl
theorem oQ {i:Nat} (hi:get s.env i=.any) {q:Rt} (hq:bJ i q=false):aD ⟨put s.env i v,s.H⟩ q=aD s q:=jc (amc hi hq)
theorem aa8 {i:Nat} (hi:get s.env i=.any) {q:Rt} (hq:bJ i q=true):aD s q=none:=by
 have ho:bX (get s.env i)=false:=by rw[hi]; rfl
 obtain⟨h1,h2⟩:=eH ho;cases q with
 |s j=>simp only[bJ,decide_eq_true_eq] at hq; subst hq; exact h1
 |sc j l=>simp only[bJ,decide_eq_true_eq] at hq; subst hq; exact h2 l
 |c b j=>simp[bJ] at hq
mutual
theorem kh {o o':Rt->Option (Nat × List AV)} {nb OL:Nat} (ho:∀p,(o p).isSome->o' p=o p) (hn:nb<=OL):∀x,c9 o nb x->c9 o' OL x
 |.eE k p off len,h=>by simp only[c9] at h ⊢; obtain⟨xs,e,h2⟩:=h; exact⟨xs,by rw[ho p (by rw[e]; rfl)]; exact e,h2⟩
 |.fP k p i off,h=>by simp only[c9] at h ⊢; obtain⟨xs,e,h2⟩:=h; exact⟨xs,by rw[ho p (by rw[e]; rfl)]; exact e,h2⟩
 |.ptr b off,h=>by simp only[c9] at h ⊢; omega
 |.agg cs,h=>by simp only[c9] at h ⊢; exact zT ho hn cs h
 |.dJ cs,h=>by simp only[c9] at h ⊢; exact zT ho hn cs h
 |.func f a b,h=>by simp only[c9] at h ⊢; exact⟨zT ho hn a h.1,zT ho hn b h.2⟩
 |.any,_=>trivial
 |.undef,_=>trivial
 |.gq,_=>trivial
 |.gz,_=>trivial
 |.dO,_=>trivial
 |.int _ _,_=>trivial
 |.bool _,_=>trivial
 |.str _,_=>trivial
 |.list _ _,_=>trivial
 |.dV _,_=>trivial
 |.own _ _,_=>trivial
 |.sl _ b _ _,h=>by simp only[c9] at h ⊢; omega
theorem zT {o o':Rt->Option (Nat × List AV)} {nb OL:Nat} (ho:∀p,(o p).isSome->o' p=o p) (hn:nb<=OL):∀cs,lJ o nb cs->lJ o' OL cs
 |[],_=>trivial
 |x::r,h=>⟨kh ho hn x h.1,zT ho hn r h.2⟩
end
theorem fx.putG (h:fx X φ w N s Ha t) {i:Nat} (hi:get s.env i=.any) (fy:N'.β=N.β) (hN:∀p,bJ i p=false->N'.ν p=N.ν p) (hv:c9 (aD s) s.H.length v) (rv:cB (Rd X φ w) φ (lK N' i v) v')
  (fc:∀p k xs,bJ i p=true->aD ⟨put s.env i v,s.H⟩ p=some (k,xs)->pd Ha (N'.ν p) k xs/\∀ n,N'.ν p=some n->(∀q,(aD s q).isSome->N.ν q≠some n)/\(∀b,(aO s.H b).isSome->N.β b≠n)/\∀ q,bJ i q=true->(aD ⟨put s.env i v,s.H⟩ q).isSome->N'.ν q=some n->q=p) :
  fx X φ w N' ⟨put s.env i v,s.H⟩ Ha (fun j=>if j=i then v' else t j):=by
 have OJ:∀{p},(aD s p).isSome->bJ i p=false:=by
  intro p hp;cases e:bJ i p with
  |false=>rfl
  |true=>rw[aa8 hi e] at hp; cases hp
 have mono:∀p,(aD s p).isSome->aD ⟨put s.env i v,s.H⟩ p=aD s p:=fun p hp=>oQ hi (OJ hp);refine⟨fun j=>?_,fun j=>?_,h.heap,fun p k xs e=>?_,fun b cs e=>?_,fun p q n e1 e2 e3 e4=>?_,fun b p e1 e2 e3=>?_,fun b d e1 e2 e3=>?_⟩
 ·simp only[bM];by_cases hj:j=i
  ·subst hj; simp only[if_true]; exact rv
  ·simp only[if_neg hj];rw[abi fy (hN _ (by simp[bJ,hj])) (fun l=>hN _ (by simp[bJ,hj])) (fun p hp=>hN p (OJ (h.eE (r:=.s j) rfl p hp)))];exact h.env j
 ·simp only[bM];by_cases hj:j=i
  ·rw[if_pos hj]; exact kh mono (aY _) v hv
  ·rw[if_neg hj]; exact kh mono (aY _) _ (h.Ib j)
 ·cases hp:bJ i p with
  |true=>exact (fc p k xs hp e).1
  |false=>rw[oQ hi hp] at e; rw[hN p hp]; exact h.own p k xs e
 ·obtain⟨as,g1,g2,g3⟩:=h.box b cs e;refine⟨as,by rw[fy]; exact g1,g2,fun j c hc=>?_⟩;obtain⟨k1,a,k2,k3⟩:=g3 j c hc;refine⟨kh mono (aY _) c k1,a,k2,?_⟩;rw[Nt fy (fun _ _ _=>hN _ rfl) (fun p hp=>hN p (OJ (h.eE (r:=.c b j) (by rw[Au (s:=s) e]; exact hc) p hp)))];exact k3
 ·cases hp:bJ i p with
  |true=>
    obtain⟨⟨k,xs⟩,e⟩:=aV.1 e1;obtain⟨_,h2⟩:=fc p k xs hp e;obtain⟨f1,f2,f3⟩:=h2 n e3;cases hq:bJ i q with
    |true=>exact (f3 q hq e2 e4).symm
    |false=>rw[oQ hi hq] at e2; rw[hN q hq] at e4; exact absurd e4 (f1 q e2)
  |false=>
    cases hq:bJ i q with
    |true=>
      obtain⟨⟨k,xs⟩,e⟩:=aV.1 e2;obtain⟨_,h2⟩:=fc q k xs hq e;obtain⟨f1,f2,f3⟩:=h2 n e4;rw[oQ hi hp] at e1;rw[hN p hp] at e3;exact absurd e3 (f1 p e1)
    |false=>
      rw[oQ hi hp] at e1;rw[oQ hi hq] at e2;rw[hN p hp] at e3;rw[hN q hq] at e4;exact h.inj p q n e1 e2 e3 e4
 ·rw[fy] at e3;cases hp:bJ i p with
  |true=>
    obtain⟨⟨k,xs⟩,e⟩:=aV.1 e2;obtain⟨_,h2⟩:=fc p k xs hp e;exact (h2 _ e3).2.1 b e1 rfl
  |false=>rw[oQ hi hp] at e2; rw[hN p hp] at e3; exact h.bx b p e1 e2 e3
 ·rw[fy] at e3; exact h.bi b d e1 e2 e3
theorem eR.quiet (h:fx X φ w N s Ha t) (hb:(∀b,b<base->N.β b=B b)/\base<=s.H.length) (hv:c9 (aD s) s.H.length v) (he:EO v) (r:cB (Rd X φ w) φ (yT N v) v'):eR X φ w B base s v t v':=by
 refine⟨⟨N,Ha,h,hb⟩,hv,fun i hi=>?_⟩
 have OJ:∀{p},(aD s p).isSome->bJ i p=false:=by
  intro p hp;cases e:bJ i p with
  |false=>rfl
  |true=>rw[aa8 hi e] at hp; cases hp
 obtain⟨N',fy,hN1,hN2⟩:∃N':Names,N'.β=N.β/\(∀p,bJ i p=false->N'.ν p=N.ν p)/\∀ p,bJ i p=true->N'.ν p=none:=⟨⟨N.β,fun p=>if bJ i p then none else N.ν p⟩,rfl,fun p hp=>by simp[hp],fun p hp=>by simp[hp]⟩;have hvb:∀p∈aU v,N'.ν p=N.ν p:=fun p hp=>hN1 p (OJ (FW v hv p hp))
 have e1:lK N' i v=yT N v:=by
  cases v<;>simp only[lK,yT,kf]<;>try exact Jf fy hvb
  ·rename_i cs;congr 1;apply eT;intro j;rw[gV,pG];simp only[ik];cases hc:cs[j]? with
   |none=>rfl
   |some c=>
     simp only[dE];congr 1;have hcb:∀p∈aU c,N'.ν p=N.ν p:=fun p hp=>hvb p (by simp only[aU]; exact lZ hc hp);cases c<;>simp only[kf,ig]<;>try exact Jf fy hcb
     simp only[tJ,hN2 (.sc i j) (by simp[bJ])]
  ·simp only[tJ,hN2 (.s i) (by simp[bJ])]
 refine⟨N',Ha,h.putG hi fy hN1 hv (by rw[e1]; exact r) (fun p k xs hp e=>?_),fun b bD=>by rw[fy]; exact hb.1 b bD,hb.2⟩;rw[hN2 p hp];refine⟨?_,fun n e=>by cases e⟩;have e':=cM.1 e;cases p with
 |s j=>
   simp only[bJ,decide_eq_true_eq] at hp;subst hp;simp only[at_,bM,if_true,ai] at e';rw[e'] at he;exact he
 |sc j l=>
   simp only[bJ,decide_eq_true_eq] at hp;subst hp;simp only[at_,bM,if_true] at e';cases v<;>simp only[reduceCtorEq] at e'
   exact he l k xs e'
 |c b j=>simp[bJ] at hp
theorem eR.fresh (h:fx X φ w N s Ha t) (hb:(∀b,b<base->N.β b=B b)/\base<=s.H.length) {k n:Nat} {xs:List AV} (ho:pd Ha (some n) k xs) (hf:∀q,(aD s q).isSome->N.ν q≠some n) (hx:∀b,(aO s.H b).isSome->N.β b≠n) (r:cB (Rd X φ w) φ (.sl k n 0 xs.length) v') :
  eR X φ w B base s (.own k xs) t v':=by
 refine⟨⟨N,Ha,h,hb⟩,trivial,fun i hi=>?_⟩
 obtain⟨N',fy,hN1,hN2⟩:∃N':Names,N'.β=N.β/\(∀p,bJ i p=false->N'.ν p=N.ν p)/\N'.ν (.s i)=some n:=⟨⟨N.β,fun p=>if p=.s i then some n else N.ν p⟩,rfl,fun p hp=>by
  have:p≠.s i:=by rintro rfl; simp[bJ] at hp
  simp[this],by simp⟩
 have only:∀p,bJ i p=true->(aD ⟨Am.put s.env i (.own k xs),s.H⟩ p).isSome->p=.s i:=by
  intro p hp e;cases p with
  |s j=>simp only[bJ,decide_eq_true_eq] at hp; rw[hp]
  |sc j l=>
    simp only[bJ,decide_eq_true_eq] at hp;subst hp;unfold aD at e;simp[at_,bM] at e
  |c b j=>simp[bJ] at hp
 refine⟨N',Ha,h.putG hi fy hN1 trivial (by simp only[lK,kf,tJ,hN2]; exact r) (fun p k' ys hp e=>?_),fun b bD=>by rw[fy]; exact hb.1 b bD,hb.2⟩;have yO:=only p hp (by rw[e]; rfl);subst yO;have e':=cM.1 e;simp only[at_,bM,if_true,ai,AV.own.injEq] at e';obtain⟨rfl,rfl⟩:=e';rw[hN2];refine⟨ho,fun m hm=>?_⟩;cases hm;exact⟨hf,hx,fun q hq e _=>only q hq e⟩
theorem fx.m6 {φ':dQ} {w':World} {Ha':Heap} (h:fx X φ w N s Ha t) (a:fU φ w φ' w') (hh:cK X φ' w' Ha') (ho:∀p k xs,aD s p=some (k,xs)->pd Ha' (N.ν p) k xs) (hb:∀b,(aO s.H b).isSome->aO Ha' (N.β b)=aO Ha (N.β b)):fx X φ' w' N s Ha' t:=
 ⟨fun i=>a.rep (h.env i),h.Ib,hh,ho,fun b cs e=>by
  obtain⟨as,g1,g2,g3⟩:=h.box b cs e;exact⟨as,by rw[hb b (by rw[e]; rfl)]; exact g1,g2,g3⟩,h.inj,h.bx,h.bi⟩
theorem pd.same {H H':Heap} {o:Option Nat} {k:Nat} {xs:List AV} (h:pd H o k xs) (hb:∀n,o=some n->aO H' n=aO H n):pd H' o k xs:=by
 cases o with
 |none=>exact h
 |some n=>
   obtain⟨cs,h1,h2⟩:=h;exact⟨cs,by rw[hb n rfl]; exact h1,h2⟩
theorem pd.lt {H:Heap} {n k:Nat} {xs:List AV} (h:pd H (some n) k xs):n<H.length:=by
 obtain⟨cs,h1,_⟩:=h;exact eI h1
theorem fx.gQ (h:fx X φ w N s Ha t) {p:Rt} (hp:(aD s p).isSome) {n:Nat} (hn:N.ν p=some n):n<Ha.length:=by
 obtain⟨⟨k,xs⟩,e⟩:=aV.1 hp;have:=h.own p k xs e;rw[hn] at this;exact this.lt
theorem fx.tw (h:fx X φ w N s Ha t) {b:Nat} (hb:(aO s.H b).isSome):N.β b<Ha.length:=by
 obtain⟨cs,e⟩:=aV.1 hb;obtain⟨as,g1,_⟩:=h.box b cs e;exact eI g1
theorem fx.push {φ':dQ} {w':World} {cs:List AV} (h:fx X φ w N s Ha t) (a:fU φ w φ' w') (hh:cK X φ' w' (Ha++[some cs])):fx X φ' w' N s (Ha++[some cs]) t:=by
 refine h.m6 a hh (fun p k xs e=>?_) (fun b hb=>?_)
 ·refine (h.own p k xs e).same fun n hn=>?_;rw[fY,if_neg];have:=h.gQ (by rw[e]; rfl) hn;omega
 ·rw[fY,if_neg];have:=h.tw hb;omega
theorem L3 (H:Heap) (cs:List AV):aO (H++[some cs]) H.length=some cs:=by rw[fY,if_pos rfl]
end
end Go.Bm

/- Operations that make blocks and boxes. -/
namespace Go.Bm
open Go.Am
mutual
theorem AM {N N':Names} {o:Rt->Option (Nat × List AV)} {nb:Nat} (fy:∀b,b<nb->N'.β b=N.β b) (kW:∀p,(o p).isSome->N'.ν p=N.ν p):∀x,c9 o nb x->df N' x=df N x
 |.eE k p a l,h=>by simp only[c9] at h; obtain⟨xs,e,_⟩:=h; simp only[df,kW p (by rw[e]; rfl)]
 |.fP k p a l,h=>by simp only[c9] at h; obtain⟨xs,e,_⟩:=h; simp only[df,kW p (by rw[e]; rfl)]
 |.ptr b off,h=>by simp only[c9] at h; simp only[df,fy b h]
 |.agg cs,h=>by simp only[c9] at h; simp only[df,sJ fy kW cs h]
 |.dJ cs,h=>by simp only[c9] at h; simp only[df,sJ fy kW cs h]
 |.func f a b,h=>by simp only[c9] at h; simp only[df,sJ fy kW a h.1,sJ fy kW b h.2]
 |.any,_=>rfl
 |.undef,_=>rfl
 |.gq,_=>rfl
 |.gz,_=>rfl
 |.dO,_=>rfl
 |.int _ _,_=>rfl
 |.bool _,_=>rfl
 |.str _,_=>rfl
 |.list _ _,_=>rfl
 |.dV _,_=>rfl
 |.own _ _,_=>rfl
 |.sl _ b _ _,h=>by simp only[c9] at h; simp only[df,fy b h]
theorem sJ {N N':Names} {o:Rt->Option (Nat × List AV)} {nb:Nat} (fy:∀b,b<nb->N'.β b=N.β b) (kW:∀p,(o p).isSome->N'.ν p=N.ν p):∀cs,lJ o nb cs->m9 N' cs=m9 N cs
 |[],_=>rfl
 |x::r,h=>by simp only[m9,AM fy kW x h.1,sJ fy kW r h.2]
end
theorem we {N N':Names} {o:Rt->Option (Nat × List AV)} {nb:Nat} (fy:∀b,b<nb->N'.β b=N.β b) (kW:∀p,(o p).isSome->N'.ν p=N.ν p) {r:Rt} {x:AV} (hr:∀k xs,x=.own k xs->N'.ν r=N.ν r) (h:c9 o nb x):kf N' r x=kf N r x:=by
 cases x<;>simp only[kf]<;>first|exact AM fy kW _ h|skip
 rename_i k xs;simp only[tJ,hr k xs rfl]
theorem Cg {N N':Names} {o:Rt->Option (Nat × List AV)} {nb:Nat} (fy:∀b,b<nb->N'.β b=N.β b) (kW:∀p,(o p).isSome->N'.ν p=N.ν p) {i:Nat} {x:AV} (h1:N'.ν (.s i)=N.ν (.s i)) (h2:∀j,N'.ν (.sc i j)=N.ν (.sc i j)) (h:c9 o nb x):lK N' i x=lK N i x:=by
 by_cases ha:∃cs,x=.agg cs
 ·obtain⟨cs,rfl⟩:=ha;simp only[lK];congr 1;apply eT;intro j;rw[gV,gV];simp only[ik];cases hc:cs[j]? with
  |none=>rfl
  |some c=>
    simp only[dE];simp only[c9] at h;rw[we fy kW (fun _ _ _=>h2 j) (hZ.1 h j c hc)]
 ·have hn:kK x:=fun cs e=>ha ⟨cs,e⟩;have e1:lK N' i x=kf N' (.s i) x:=by cases x<;>first|rfl|exact absurd rfl (hn _)
  have e2:lK N i x=kf N (.s i) x:=by cases x<;>first|rfl|exact absurd rfl (hn _)
  rw[e1,e2];exact we fy kW (fun _ _ _=>h1) h
mutual
theorem lz (N:Names):∀x,pl x=true->df N x=x
 |.agg cs,h=>by simp only[pl] at h; simp only[df,Jc N cs h]
 |.dJ cs,h=>by simp only[pl] at h; simp only[df,Jc N cs h]
 |.func f a b,h=>by simp only[pl,ae] at h; simp only[df,Jc N a h.1,Jc N b h.2]
 |.any,_=>rfl
 |.undef,_=>rfl
 |.gq,_=>rfl
 |.gz,_=>rfl
 |.dO,_=>rfl
 |.int _ _,_=>rfl
 |.bool _,_=>rfl
 |.str _,_=>rfl
 |.list _ _,_=>rfl
 |.dV _,_=>rfl
 |.own _ _,h=>by simp[pl] at h
 |.eE _ _ _ _,h=>by simp[pl] at h
 |.fP _ _ _ _,h=>by simp[pl] at h
 |.ptr _ _,h=>by simp[pl] at h
 |.sl _ _ _ _,h=>by simp[pl] at h
theorem Jc (N:Names):∀cs,dP cs=true->m9 N cs=cs
 |[],_=>rfl
 |x::r,h=>by simp only[dP,ae] at h; simp only[m9,lz N x h.1,Jc N r h.2]
end
theorem aag (N:Names) {c:AV} (h:fz (eV c)=true) (he:∀k xs,c=.own k xs->xs=[]):Le (eV c) (ig N c):=by
 cases c<;>simp only[eV] at h ⊢<;>first
  | (have := (kD h).1
     simp only[ig];rw[lz N _ this];exact Le.refl _)
  |skip
 rename_i k xs;have:=he k xs rfl;subst this;exact Le.eV k
section
variable {P:Program} {X:Nat->Prop} {φ φ':dQ} {w w':World} {N N':Names} {s s1:St} {Ha:Heap} {t:Nat->Value} {B:Nat->Nat} {base:Nat} {v:AV} {v':Value} {c:fe} {o:Oper} {a:Act}
theorem fx.WQ {zs as:List AV} (h:fx X φ w N s Ha t) (ad:fU φ w φ' w') (hh:cK X φ' w' (Ha++[some as])) (hz:lJ (aD s) s.H.length zs) (he:EOL zs) (has:as=ja N zs) :
  ∃ N',(∀b,b<s.H.length->N'.β b=N.β b)/\N'.β s.H.length=Ha.length/\fx X φ' w' N' ⟨s.env,s.H++[some zs]⟩ (Ha++[some as]) t:=by
 have h1:=h.push ad hh
 obtain⟨N',fy,hβ2,hN1,hN2⟩:∃N':Names,(∀b,b<s.H.length->N'.β b=N.β b)/\N'.β s.H.length=Ha.length/\(∀p,(∀j,p≠.c s.H.length j)->N'.ν p=N.ν p)/\∀ j,N'.ν (.c s.H.length j)=none:=
  ⟨⟨fun b=>if b=s.H.length then Ha.length else N.β b,fun p=>match p with
   |.c b j=>if b=s.H.length then none else N.ν (.c b j)
   |p=>N.ν p⟩,fun b hb=>by simp; omega,by simp,fun p hp=>by
     cases p with
     |s i=>rfl
     |sc i j=>rfl
     |c b j=>
       have:b≠s.H.length:=fun e=>hp j (by rw[e]);simp[this],fun j=>by simp⟩
 have atq:∀q,(∀j,q≠.c s.H.length j)->at_ ⟨s.env,s.H++[some zs]⟩ q=at_ s q:=by
  intro q hq;cases q with
  |s i=>rfl
  |sc i j=>rfl
  |c b j=>
    have:b≠s.H.length:=fun e=>hq j (by rw[e]);simp only[at_,fY,if_neg this]
 have atn:∀j,at_ ⟨s.env,s.H++[some zs]⟩ (.c s.H.length j)=zs[j]?:=fun j=>by simp only[at_,fY,if_true]
 have OJ:∀{q},(aD s q).isSome->∀j,q≠.c s.H.length j:=by
  rintro q hq j rfl;unfold aD at hq
  have:aO s.H s.H.length=none:=by
   cases e:aO s.H s.H.length with
   |none=>rfl
   |some cs=>have:=eI e; omega
  simp[at_,this] at hq
 have mono:∀p,(aD s p).isSome->aD ⟨s.env,s.H++[some zs]⟩ p=aD s p:=fun p hp=>jc (atq p (OJ hp));have kW:∀p,(aD s p).isSome->N'.ν p=N.ν p:=fun p hp=>hN1 p (OJ hp);have hlen:s.H.length<=(s.H++[some zs]).length:=by simp
 have ajf:∀{q k xs},aD ⟨s.env,s.H++[some zs]⟩ q=some (k,xs)->(aD s q=some (k,xs))\/((∃j,q=.c s.H.length j)/\xs=[]):=by
  intro q k xs e;by_cases hq:∃j,q=.c s.H.length j
  ·obtain⟨j,rfl⟩:=hq;have e':=cM.1 e;rw[atn] at e';exact .inr ⟨⟨j,rfl⟩,he j k xs e'⟩
  ·rw[jc (atq q fun j e=>hq ⟨j,e⟩)] at e;exact .inl e
 have Jk:∀{q n},(aD ⟨s.env,s.H++[some zs]⟩ q).isSome->N'.ν q=some n->(aD s q).isSome/\N.ν q=some n:=by
  intro q n hq hn;obtain⟨⟨k,xs⟩,e⟩:=aV.1 hq;rcases ajf e with e1|⟨⟨j,rfl⟩,_⟩
  ·have:(aD s q).isSome:=by rw[e1]; rfl
   exact⟨this,by rw[<-kW q this]; exact hn⟩
  ·rw[hN2] at hn; cases hn
 have bold:∀{b},(aO (s.H++[some zs]) b).isSome->(b<s.H.length/\(aO s.H b).isSome)\/b=s.H.length:=by
  intro b hb;rw[fY] at hb;by_cases e:b=s.H.length
  ·exact .inr e
  ·rw[if_neg e] at hb;obtain⟨cs,e2⟩:=aV.1 hb;exact .inl ⟨eI e2,hb⟩
 refine⟨N',fy,hβ2,⟨fun i=>?_,fun i=>kh mono hlen _ (h1.Ib i),hh,fun p k xs e=>?_,fun b cs e=>?_,fun p q n e1 e2 e3 e4=>?_,fun b p e1 e2 e3=>?_,fun b d e1 e2 e3=>?_⟩⟩
 ·rw[Cg fy kW (hN1 _ (fun j e=>by cases e)) (fun l=>hN1 _ (fun j e=>by cases e)) (h1.Ib i)];exact h1.env i
 ·rcases ajf e with e1|⟨⟨j,rfl⟩,rfl⟩
  ·rw[kW p (by rw[e1]; rfl)]; exact h1.own p k xs e1
  ·rw[hN2]; rfl
 ·by_cases hb:b=s.H.length
  ·subst hb;simp only[fY,if_true,ai] at e;subst e;refine⟨as,by rw[hβ2]; exact L3 _ _,by rw[has,jU],fun j x hx=>⟨kh mono hlen x (hZ.1 hz j x hx),ig N x,by rw[has,pG,hx]; rfl,?_⟩⟩;have hxk:=hZ.1 hz j x hx;cases x<;>simp only[kf,ig]<;>try (rw[AM fy kW _ hxk]; exact Le.refl _)
   simp only[tJ,hN2];exact Le.refl _
  ·simp only[fY,if_neg hb] at e;obtain⟨as',g1,g2,g3⟩:=h1.box b cs e;refine⟨as',by rw[fy b (eI e)]; exact g1,g2,fun j x hx=>?_⟩;obtain⟨k1,a',k2,k3⟩:=g3 j x hx;refine⟨kh mono hlen x k1,a',k2,?_⟩;rw[we fy kW (fun _ _ _=>hN1 _ (fun l e=>by cases e; exact hb rfl)) k1];exact k3
 ·obtain⟨p1,p2⟩:=Jk e1 e3;obtain⟨q1,q2⟩:=Jk e2 e4;exact h1.inj p q n p1 q1 p2 q2
 ·obtain⟨p1,p2⟩:=Jk e2 e3;rcases bold e1 with⟨b1,b2⟩|b1
  ·rw[fy b b1] at p2; exact h1.bx b p b2 p1 p2
  ·subst b1;rw[hβ2] at p2;have:=h.gQ p1 p2;omega
 ·rcases bold e1 with⟨b1,b2⟩|b1<;>rcases bold e2 with⟨d1,d2⟩|d1
  ·rw[fy b b1,fy d d1] at e3; exact h1.bi b d b2 d2 e3
  ·subst d1; rw[fy b b1,hβ2] at e3; have:=h.tw b2; omega
  ·subst b1; rw[fy d d1,hβ2] at e3; have:=h.tw d2; omega
  ·rw[b1,d1]
def tm (a:Act):Nat->Value:=fun i=>a.tmps.getD i undef
def nW (P:Program) (X:Nat->Prop) (φ:dQ) (w:World) (B:Nat->Nat) (base:Nat) (s1:St) (v:AV) (o:Oper) (a:Act):Prop:=
 ∀ (K:Act->World->Prop) (Q:Exit->Act->World->Prop),(∀v' w' φ',eR X φ' w' B base s1 v (tm a) v'->fU φ w φ' w'->K (a.put o.dst v') w')->o.wp P a w K Q
theorem nW.ghost (ad:fU φ w φ' w) (h:nW P X φ' w B base s1 v o a):nW P X φ w B base s1 v o a:=fun K Q hK=>h K Q fun v' w' ql hp k=>hK v' w' ql hp (ad.trans k)
theorem nW.of {va:AV} {Ha':Heap} (h:Ok P X φ w o a va Ha') (hp:∀v' w' φ',cB (Rd X φ' w') φ' va v'->cK X φ' w' Ha'->fU φ w φ' w'->eR X φ' w' B base s1 v (tm a) v'):nW P X φ w B base s1 v o a:=
 fun K Q hK=>h K Q fun v' w' φ' r hh ad=>hK v' w' φ' (hp v' w' φ' r hh ad) ad
def ju (c:fe):Am.fe:=⟨fun _=>none,c.gl,fun _=>none⟩
theorem al4 (hm:P.follows .mixedOrders=true) (c:fe):Am.VK P (ju c):=⟨hm,fun f m q h=>by cases h⟩
def noC:Nat->List AV->Heap->Option (AV × Heap):=fun _ _ _=>none
theorem afD (c:fe):Am.GM P (ju c) noC:=fun f m q h=>by cases h
end
end Go.Bm

/- Operations that read, and that make blocks and boxes: from the model. -/
namespace Go.Bm
open Go.Am
theorem lj:∀(a b:List AV),aI (a++b)=aI a++aI b
 |[],b=>rfl
 |x::r,b=>by simp[aI,lj r b]
theorem Vd (k:Nat):∀(n:Nat) (ys:List AV),n*k<=ys.length->aI (VU k n ys)=ys.take (n*k)
 |0,ys,_=>by simp[VU,aI]
 |n+1,ys,h=>by
   have h':n*k+k<=ys.length:=by rw[cT] at h; omega
   simp only[VU,aI,vU];rw[Vd k n (ys.drop k) (by rw[eS]; omega),cT,Nat.one_mul,Nat.add_comm,List.take_add]
theorem Vc (e:AV):∀n,aI (aH n e)=rep e.cells n
 |0=>rfl
 |n+1=>by simp[List.replicate_succ,aI,rep,Vc e n]
theorem D9 (f:AV->AV) (zs:List AV):∀n,rep (zs.map f) n=(rep zs n).map f
 |0=>rfl
 |n+1=>by simp[rep,D9 f zs n]
theorem P7 (zs:List AV):∀n,(rep zs n).length=n*zs.length
 |0=>by simp[rep]
 |n+1=>by simp[rep,P7 zs n,cT]; omega
theorem AU {zs:List AV} {x:AV}:∀{n:Nat},x∈rep zs n->x∈zs
 |0,h=>by simp[rep] at h
 |n+1,h=>by
   simp only[rep,aG] at h;rcases h with h|h
   ·exact h
   ·exact AU h
theorem lh:∀{cs:List AV},U7 cs=true->∀x∈cs,fz x=true
 |[],_,x,hx=>by simp at hx
 |y::r,h,x,hx=>by
   simp only[U7,ae] at h;rcases aK.1 hx with e|e
   ·subst e; exact h.1
   ·exact lh h.2 x e
theorem IE {o:Rt->Option (Nat × List AV)} {nb:Nat}:∀{cs:List AV},lJ o nb cs->∀x∈cs,c9 o nb x
 |[],_,x,hx=>by simp at hx
 |y::r,h,x,hx=>by
   rcases aK.1 hx with e|e
   ·subst e; exact h.1
   ·exact IE h.2 x e
theorem Dl {o:Rt->Option (Nat × List AV)} {nb:Nat}:∀{cs:List AV},(∀x∈cs,c9 o nb x)->lJ o nb cs
 |[],_=>trivial
 |y::r,h=>⟨h y (by simp),Dl fun x hx=>h x (by simp[hx])⟩
theorem PA:∀{vs:List Value} {xs:List AV},tp vs xs=true->xs.length=vs.length
 |[],[],_=>rfl
 |[],_::_,h=>by simp[tp] at h
 |_::_,[],h=>by simp[tp] at h
 |v::r,x::s,h=>by simp only[tp,ae] at h; simp[PA h.2]
theorem ail:∀{zs:List AV},ob (xm zs)=true->bG (xm zs)=true->∀z∈zs,fz (eV z)=true
 |[],_,_,z,hz=>by simp at hz
 |x::r,h1,h2,z,hz=>by
   simp only[xm,ob,bG,ae] at h1 h2;rcases aK.1 hz with e|e
   ·subst e;rcases dn_c (EZ h1.1) with⟨k,rfl,e⟩|⟨hc,e⟩
    ·rfl
    ·rw[e] at h1 h2;have h1':=h1.1;have h2':=h2.1;cases z<;>first|rfl|(simp[xd] at h1'; done)|(simp[AV.leaf] at h2'; done)
   ·exact ail h1.2 h2.2 z e
theorem acC {R:Addr->Value->Prop} {φ:dQ} {x:AV} {v:Value} (h:cB R φ x v):φ=[]->pl x=true:=by
 have all:∀{cs:List AV} {vs:Array Value},cs.length=vs.size->(∀(i:Nat) (c:AV) (v:Value),cs[i]?=some c->vs[i]?=some v->pl c=true)->dP cs=true:=by
  intro cs
  induction cs with
  |nil=>intro vs _ _; rfl
  |cons x r ih=>
    intro vs hl h;simp only[dP,ae];obtain⟨u,hu⟩:=dc (l:=vs) (i:=0) (by simp at hl; omega);refine⟨h 0 x u rfl hu,ih (vs:=vs.extract 1 vs.size) (by simp at hl ⊢; omega) fun i c v hc hv=>?_⟩;refine h (i+1) c v (by simpa using hc) ?_;rw[Array.getElem?_extract] at hv;split at hv
    ·rwa [Nat.add_comm] at hv
    ·cases hv
 induction h with
 |agg φ cs vs hl h ih=>intro e; simp only[pl]; exact all hl fun i c v h1 h2=>ih i c v h1 h2 e
 |dJ φ cs vs hl h ih=>intro e; simp only[pl]; exact all hl fun i c v h1 h2=>ih i c v h1 h2 e
 |func φ f as va bs vb HN HM ha hb iha ihb=>intro e; simp only[pl,ae]; exact⟨all HN fun i c v h1 h2=>iha i c v h1 h2 e,all HM fun i c v h1 h2=>ihb i c v h1 h2 e⟩
 |ptr φ b off a hb h=>intro e; subst e; simp at hb
 |sl φ k b off len a cap hb hc h=>intro e; subst e; simp at hb
 |_=>intro _; rfl
mutual
theorem vI {o:Rt->Option (Nat × List AV)} {nb:Nat}:∀x,pl x=true->c9 o nb x
 |.agg cs,h=>by simp only[pl] at h; exact Ku cs h
 |.dJ cs,h=>by simp only[pl] at h; exact Ku cs h
 |.func f a b,h=>by simp only[pl,ae] at h; exact⟨Ku a h.1,Ku b h.2⟩
 |.any,_=>trivial
 |.undef,_=>trivial
 |.gq,_=>trivial
 |.gz,_=>trivial
 |.dO,_=>trivial
 |.int _ _,_=>trivial
 |.bool _,_=>trivial
 |.str _,_=>trivial
 |.list _ _,_=>trivial
 |.dV _,_=>trivial
 |.own _ _,h=>by simp[pl] at h
 |.eE _ _ _ _,h=>by simp[pl] at h
 |.fP _ _ _ _,h=>by simp[pl] at h
 |.ptr _ _,h=>by simp[pl] at h
 |.sl _ _ _ _,h=>by simp[pl] at h
theorem Ku {o:Rt->Option (Nat × List AV)} {nb:Nat}:∀cs,dP cs=true->lJ o nb cs
 |[],_=>trivial
 |x::r,h=>by simp only[dP,ae] at h; exact⟨vI x h.1,Ku r h.2⟩
end
theorem DC:∀{ds:List AV},bZ ds=false->∀(j k:Nat) (xs:List AV),ds[j]?≠some (.own k xs)
 |[],_,j,k,xs,e=>by simp at e
 |y::r,h,j,k,xs,e=>by
   cases j with
   |zero=>simp at e; subst e; simp[bZ] at h
   |succ j=>exact DC (ds:=r) (by cases y<;>simp[bZ] at h<;>exact h) j k xs (by simpa using e)
theorem nu {x:AV} (h:bX x=false):EO x:=by
 cases x<;>simp only[EO]<;>try (simp[bX] at h; done)
 exact fun j k xs e=>absurd e (DC h j k xs)
theorem acH {ag:Option Nat} {xs ys:List AV} {x:AV} (h:FN ag xs=some x) (hl:xs.length<=ys.length) (hle:∀(i:Nat) (a b:AV),xs[i]?=some a->ys[i]?=some b->Le a b):∃y,FN ag ys=some y/\Le x y:=by
 unfold FN at h ⊢;cases ag with
 |some k=>
   simp only at h ⊢;split at h
   case isFalse=>cases h
   rename_i hk;simp at h;subst h;rw[if_pos (by omega)];refine⟨_,rfl,Le.agg (by simp; omega) fun i a b ha hb=>?_⟩;rw[bN] at ha hb;split at ha
   ·rename_i hi;rw[if_pos hi] at hb;exact hle i a b ha hb
   ·cases ha
 |none=>
   simp only at h ⊢;cases xs with
   |nil=>cases h
   |cons a r=>
     simp at h;subst h;cases ys with
     |nil=>simp at hl
     |cons b r'=>exact⟨b,rfl,hle 0 a b rfl rfl⟩
section
variable {P:Program} {X:Nat->Prop} {φ φ':dQ} {w w':World} {N N':Names} {s s1:St} {Ha Ha':Heap} {t:Nat->Value} {B:Nat->Nat} {base:Nat} {v va:AV} {v':Value} {c:fe} {o:Oper} {a:Act} {kd:Kd}
theorem Vi {t:TypeId} {k:Nat} {zs:List AV} (h1:jK P t k=true) (h2:jf P t zs=true):zs.length=k/\ob zs=true/\bG zs=true:=by
 obtain⟨e,i,z,hu,hi,A9,hk0,hby,UT,VQ⟩:=jV h1;unfold jf at h2;rw[hu] at h2;simp only at h2;refine⟨?_,(uT h2).1,(uT h2).2⟩;unfold qm at h2;rw[hi] at h2;simp only[UT,ae] at h2;have:=PA h2.1;rw[this];simpa using VQ
theorem oh (hm:P.follows .mixedOrders=true) (h:fx X φ w N s Ha (tm a)) (hg:Am.e9 (ju c) X φ w) (hk:dz P o.op kd=true) {fl:Fp} (hs:gU (ju c) noC (DQ N s.env) Ha kd=some (va,Ha',fl)):Ok P X φ w o a va Ha':=
 am0 (al4 hm c) (afD c) (fun i=>by rw[nO]; exact h.env i) hg h.heap hk hs
theorem ZK (hm:P.follows .mixedOrders=true) (h:SB X φ w B base s (tm a)) (hg:Am.e9 (ju c) X φ w) (hk:dz P o.op (nS kd)=true) (hs:WE c s.env kd=some v):nW P X φ w B base s v o a:=by
 obtain⟨N,Ha,h,hb⟩:=h;obtain⟨h1,h2,h3⟩:=akC (cA:=ju c) (call:=noC) h rfl hk hs;refine nW.of (oh hm h hg hk h1) fun v' w' φ' r hh ad=>?_;exact eR.quiet (h.m6 ad hh h.own (fun _ _=>rfl)) hb h2 h3 r
theorem WG (hm:P.follows .mixedOrders=true) (h:SB X φ w B base s (tm a)) (hg:Am.e9 (ju c) X φ w) {zs:List AV} (hk:dz P o.op (nS (.new zs))=true):nW P X φ w B base ⟨s.env,s.H++[some zs]⟩ (.ptr s.H.length 0) o a:=by
 obtain⟨N,Ha,h,hb,hl⟩:=h;obtain⟨t,ht⟩:=ahL hk;obtain⟨e1,e2⟩:=Fl N (uT ht).1;refine nW.of (oh hm h hg hk (by simp only[nS,gU]; rfl)) fun v' w' φ' r hh ad=>?_;obtain⟨N',n1,n2,h'⟩:=h.WQ ad hh (EF (uT ht).1) e2 e1;refine eR.quiet h' ⟨fun b bD=>by rw[n1 b (by omega)]; exact hb b bD,by simp; omega⟩ (by simp[c9]) trivial ?_;simp only[yT,df,n2];exact r
theorem agO (hm:P.follows .mixedOrders=true) (h:SB X φ w B base s (tm a)) (hg:Am.e9 (ju c) X φ w) {x:E} (hk:dz P o.op (nS (.box x))=true) (A8:bG (bC c s.env x).cells=true):nW P X φ w B base ⟨s.env,s.H++[some (bC c s.env x).cells]⟩ (.ptr s.H.length 0) o a:=by
 obtain⟨N,Ha,h,hb,hl⟩:=h;obtain⟨o',ho⟩:=ahY hk;have hx:=dg (c:=c) (cA:=ju c) h rfl ho;have hc:=LV N hx.na;refine nW.of (oh hm h hg hk (by simp only[nS,gU,hx.ev,hc,xw h A8 (zR hx.ok),if_true]; rfl)) fun v' w' φ' r hh ad=>?_;obtain⟨N',n1,n2,h'⟩:=h.WQ ad hh (zR hx.ok) hx.EOL rfl;refine eR.quiet h' ⟨fun b bD=>by rw[n1 b (by omega)]; exact hb b bD,by simp; omega⟩ (by simp[c9]) trivial ?_;simp only[yT,df,n2];exact r
theorem Fb (h:fx X φ w N s Ha t) (hb:(∀b,b<base->N.β b=B b)/\base<=s.H.length) (ad:fU φ w φ' w') {cs:List AV} (hh:cK X φ' w' (Ha++[some cs])) {k:Nat} {xs:List AV} (hlen:xs.length*k<=cs.length) (hk:∀x∈xs,x.cells.length=k)
  (hc:∀(i:Nat) (d:AV),(aI xs)[i]?=some d->fz d=true/\∃ e,cs[i]?=some e/\e.leaf=true/\Le d e) (r:cB (Rd X φ' w') φ' (.sl k Ha.length 0 xs.length) v'):eR X φ' w' B base s (.own k xs) t v':=by
 refine eR.fresh (h.push ad hh) hb (n:=Ha.length) ⟨cs,L3 _ _,hlen,hk,hc⟩ (fun q hq e=>?_) (fun b hb e=>?_) r
 ·have:=h.gQ hq e; omega
 ·have:=h.tw hb; omega
theorem WJ (hm:P.follows .mixedOrders=true) (h:SB X φ w B base s (tm a)) (hg:Am.e9 (ju c) X φ w) {k n:Nat} {zs cs:List AV} {ps:List (Nat × Nat × E)} (hk:dz P o.op (nS (.dK k n zs ps))=true) (hf:rO c s.env (rep zs n) ps=some cs) (hz:U7 (cs.map eV)=true) :
  nW P X φ w B base s (.own k (VU k n (cs.map eV))) o a:=by
 obtain⟨N,Ha,h,hb⟩:=h;obtain⟨⟨t,ht1,ht2⟩,hq⟩:=XF hk;obtain⟨z1,z2,z3⟩:=Vi ht1 ht2;obtain⟨e1,e2⟩:=Fl N z2;have Lp:rep (xm zs) n=ja N (rep zs n):=by rw[e1,uU,uU,D9]
 have DS:zs.length=k:=by rw[<-z1,e1,jU]
 have hzok:lJ (aD s) s.H.length (rep zs n):=Dl fun x hx=>IE (EF z2) x (AU hx)
 have hzeo:EOL (rep zs n):=fun j k' xs hj=>by
  obtain⟨i,hi⟩:=bH (AU (bt hj));exact e2 i k' xs hi
 obtain⟨f1,f2,f3,f4⟩:=ua (cA:=ju c) h rfl hq hzok hzeo hf;have M5:cs.length=n*k:=by rw[f4,P7,DS]
 have A8:bG cs=true:=by
  have:∀{l:List AV},(∀x∈l,x.leaf=true)->bG l=true:=by
   intro l
   induction l with
   |nil=>intro _; rfl
   |cons y r ih=>intro h; simp only[bG,ae]; exact⟨h y (by simp),ih fun x hx=>h x (by simp[hx])⟩
  refine this fun x hx=>?_;have:=(kD (lh hz (eV x) (sC hx))).2;cases x<;>first|exact this|rfl
 have anp:∀x∈cs,x.leaf=true:=fun x hx=>by
  have:=(kD (lh hz (eV x) (sC hx))).2;cases x<;>first|exact this|rfl
 refine nW.of (oh hm h hg hk (by simp only[nS,gU,Lp,f1,xw h A8 f2,if_true]; rfl)) fun v' w' φ' r hh ad=>?_;obtain⟨g1,g2⟩:=Lv k n (cs.map eV) (by simp[M5]);refine Fb h hb ad hh (by rw[g1,jU,M5]; omega) (fun x hx=>?_) (fun i d hd=>?_) (by rw[g1]; exact r)
 ·obtain⟨i,hi⟩:=bH hx;obtain⟨q1,q2⟩:=g2 i x hi;rw[q1,bF,eS,jQ,M5];have:(i+1)*k<=n*k:=bS k q2;rw[cT] at this;omega
 ·rw[Vd k n _ (by simp[M5]),<-M5,show (cs.map eV).take cs.length=cs.map eV from List.take_of_length_le (by simp),ct] at hd;cases hc:cs[i]? with
  |none=>rw[hc] at hd; cases hd
  |some x=>
    rw[hc] at hd;simp at hd;subst hd;have E5:=lh hz (eV x) (sC (bt hc));exact⟨E5,ig N x,by rw[pG,hc]; rfl,Re h (anp x (bt hc)) (IE f2 x (bt hc)),aag N E5 (fun k xs e=>f3 i k xs (by rw[hc,e]))⟩
theorem agK (hm:P.follows .mixedOrders=true) (h:SB X φ w B base s (tm a)) (hg:Am.e9 (ju c) X φ w) {k:Nat} {zs:List AV} {x y:E} {k1 k2:IntKind} {l cp:Int} (hk:dz P o.op (nS (.KR k zs x y))=true) (hx:bC c s.env x=.int k1 l) (hy:bC c s.env y=.int k2 cp) (hc:0<=l/\l<=cp/\cp<=(jx:Int)) :
  nW P X φ w B base s (.own k (aH l.toNat (el (zs.map eV)))) o a:=by
 obtain⟨N,Ha,h,hb⟩:=h;obtain⟨⟨t,ht1,ht2⟩,⟨o1,h1⟩,o2,h2⟩:=aaZ hk;obtain⟨z1,z2,z3⟩:=Vi ht1 ht2;obtain⟨e1,e2⟩:=Fl N z2;have DS:zs.length=k:=by rw[<-z1,e1,jU]
 have MY:=(dg (c:=c) (cA:=ju c) h rfl h1).int hx;have DT:=(dg (c:=c) (cA:=ju c) h rfl h2).int hy;refine nW.of (oh hm h hg hk (by simp only[nS,gU,MY,DT,if_pos hc]; rfl)) fun v' w' φ' r hh ad=>?_;refine Fb h hb ad hh (by rw[cz,P7,z1]; omega) (fun u hu=>?_) (fun i d hd=>?_) (by rw[cz]; exact r)
 ·rw[List.eq_of_mem_replicate hu,vU,jQ,DS]
 ·rw[Vc,vU,D9,ct] at hd;cases Xh:(rep zs l.toNat)[i]? with
  |none=>rw[Xh] at hd; cases hd
  |some z=>
    rw[Xh] at hd;simp at hd;subst hd;have hmem:=AU (bt Xh);obtain⟨j,hj⟩:=bH hmem;have heo:∀k xs,z=.own k xs->xs=[]:=fun k xs e=>e2 j k xs (by rw[hj,e]);have E5:fz (eV z)=true:=ail z2 z3 z hmem
    have A8:(ig N z).leaf=true:=by
     have Xa:ig N z∈xm zs:=by rw[e1,uU]; exact sC hmem
     have:∀{l:List AV},bG l=true->∀x∈l,x.leaf=true:=by
      intro l
      induction l with
      |nil=>intro _ x hx; simp at hx
      |cons y r ih=>
        intro q x hx;simp only[bG,ae] at q;rcases aK.1 hx with e|e
        ·subst e; exact q.1
        ·exact ih q.2 x e
     exact this z3 _ Xa
    exact⟨E5,ig N z,by rw[e1]; rw[uU,D9,ct,Xh]; rfl,A8,aag N E5 heo⟩
theorem ah7 {zs z:List AV} (h:boxZ zs=some z):xm zs=[.dO]/\∃ k,z=[.own k []]:=by
 unfold boxZ at h;split at h
 case h_2=>cases h
 rename_i k;split at h
 case isFalse=>cases h
 simp at h;exact⟨rfl,_,h.symm⟩
theorem agJ (hm:P.follows .mixedOrders=true) (h:SB X φ w B base s (tm a)) (hg:Am.e9 (ju c) X φ w) {k:Nat} {zs z:List AV} {x y:E} {k1 k2:IntKind} {l cp:Int} (hk:dz P o.op (nS (.KR k zs x y))=true) (hz:boxZ zs=some z) (hx:bC c s.env x=.int k1 l) (hy:bC c s.env y=.int k2 cp) (hc:0<=l/\l<=cp/\cp<=(jx:Int)) :
  nW P X φ w B base ⟨s.env,s.H++[some (rep z l.toNat)]⟩ (.sl k s.H.length 0 l.toNat) o a:=by
 obtain⟨N,Ha,h,hb,hl⟩:=h;obtain⟨_,⟨o1,h1⟩,o2,h2⟩:=aaZ hk;obtain⟨e1,k',rfl⟩:=ah7 hz;have MY:=(dg (c:=c) (cA:=ju c) h rfl h1).int hx;have DT:=(dg (c:=c) (cA:=ju c) h rfl h2).int hy;refine nW.of (oh hm h hg hk (by simp only[nS,gU,MY,DT,if_pos hc]; rfl)) fun v' w' φ' r hh ad=>?_
 obtain⟨N',n1,n2,h'⟩:=h.WQ (zs:=rep [.own k' []] l.toNat) ad hh (Dl fun u hu=>by
  have:=AU hu;simp at this;subst this;exact trivial) (fun j kk xs hj=>by
  have:=AU (bt hj);simp at this;exact this.2) (by rw[e1,uU,<-D9]; rfl)
 refine eR.quiet h' ⟨fun b bD=>by rw[n1 b (by omega)]; exact hb b bD,by simp; omega⟩ (by simp[c9]) trivial ?_;simp only[yT,df,n2];exact r
theorem ajd (h:fx X φ w N s Ha (tm a)) (hg:Am.e9 (ju c) X φ w) {ag:Option Nat} {x:E} {ps:List Rt} {o':Operand} (ho:dF o' (nT x)=true) (hs:Dj s ag (bC c s.env x)=some (v,ps)) :
  ∃ va fl,gU (ju c) noC (DQ N s.env) Ha (nS (.ld ag x))=some (va,Ha,fl)/\Le (yT N v) va/\c9 (aD s) s.H.length v/\EO v:=by
 have hx:=dg (c:=c) (cA:=ju c) h rfl ho;have dG:=hx.ok
 have fin:∀{va:AV} {fl:Fp},gU (ju c) noC (DQ N s.env) Ha (nS (.ld ag x))=some (va,Ha,fl)->Le (yT N v) va->c9 (aD s) s.H.length v->EO v->∃va fl,gU (ju c) noC (DQ N s.env) Ha (nS (.ld ag x))=some (va,Ha,fl)/\Le (yT N v) va/\c9 (aD s) s.H.length v/\EO v:=
  fun e hle h2 h3=>⟨_,_,e,hle,h2,h3⟩
 have rdn:∀{cs:List AV},P9 ag cs=some v->FN ag cs=some v/\bX v=false:=by
  intro cs hu;unfold P9 at hu;split at hu
  case h_2=>cases hu
  rename_i u' hr;split at hu
  ·cases hu
  rename_i iS;simp at hu iS;subst hu;exact⟨hr,iS⟩
 have plrd:∀{cs:List AV},FN ag cs=some v->(∀x∈cs,pl x=true)->pl v=true:=by
  intro cs hr hp;unfold FN at hr;cases ag with
  |some k=>
    simp only at hr;split at hr
    case isFalse=>cases hr
    simp at hr;subst hr;simp only[pl]
    have:∀{l:List AV},(∀x∈l,pl x=true)->dP l=true:=by
     intro l
     induction l with
     |nil=>intro _; rfl
     |cons y r ih=>intro h; simp only[dP,ae]; exact⟨h y (by simp),ih fun x hx=>h x (by simp[hx])⟩
    exact this fun x hx=>hp x (dA hx)
  |none=>
    simp only at hr;cases cs with
    |nil=>cases hr
    |cons y r=>simp at hr; subst hr; exact hp y (by simp)
 unfold Dj at hs;cases e:bC c s.env x<;>rw[e] at hs dG<;>try (simp at hs; done)
 ·rename_i cs;simp only at hs;split at hs
  case h_2=>cases hs
  rename_i u hu;simp at hs;obtain⟨rfl,rfl⟩:=hs;obtain⟨hr,iS⟩:=rdn hu;have r:=cF (c:=ju c) (env:=DQ N s.env) (a:=a) (fun i=>by rw[nO]; exact h.env i) hg ho;rw[hx.ev,e] at r;simp only[ig,df] at r
  have pq:∀y∈cs,pl y=true:=by
   intro y hy;obtain⟨j,hj⟩:=bH hy;generalize a.eval o'=z at r;cases r with
   |dV _ _ _ u hu h=>exact acC (h j y hj) rfl
  have hv:=plrd hr pq;refine fin (va:=u) (by simp only[nS,gU,hx.ev,e,ig,df,hr]; rfl) ?_ (vI _ hv) (nu iS);rw[mg N iS,lz N _ hv];exact Le.refl _
 ·rename_i b off;simp only at hs;split at hs
  case h_2=>cases hs
  rename_i cs eM;split at hs
  case h_2=>cases hs
  rename_i u hu;simp at hs;obtain⟨rfl,rfl⟩:=hs;obtain⟨hr,iS⟩:=rdn hu;obtain⟨as,g1,g2,g3⟩:=h.box b cs eM
  have hokL:lJ (aD s) s.H.length (fw (.c b) 0 cs):=by
   refine hZ.2 fun j d hd=>?_;rw[Ge] at hd;cases hc:cs[j]? with
   |none=>rw[hc] at hd; cases hd
   |some d0=>
     rw[hc] at hd;simp only[dE,ai,ik] at hd;subst hd;split
     ·rename_i k xs;simp only[c9];exact⟨xs,cM.2 (by rw[Au eM]; exact hc),by omega⟩
     ·exact (g3 j _ hc).1
  obtain⟨r1,r2,r3,_⟩:=Wu N hu (EJ (n:=off) hokL);rw[<-Jg,Je] at r1
  obtain⟨va,q1,q2⟩:=acH (ys:=as.drop off) r1 (by simp[jo]; omega) (fun i x y hx hy=>by
   rw[br,gV] at hx;rw[br] at hy;simp only[ik] at hx;cases hc:cs[off+i]? with
   |none=>rw[hc] at hx; cases hx
   |some d=>
     rw[hc] at hx;simp at hx;subst hx;obtain⟨_,a',a1,a2⟩:=g3 _ d hc;rw[a1] at hy;cases hy;exact a2)
  exact fin (va:=va) (by simp only[nS,gU,hx.ev,e,ig,df,g1,q1]; rfl) q2 r2 r3
 ·rename_i k p i off;simp only at hs;split at hs
  case h_2=>cases hs
  rename_i k' xs hp;split at hs
  case isFalse=>cases hs
  rename_i wc;subst wc;split at hs
  case h_2=>cases hs
  rename_i el' hel;split at hs
  case h_2=>cases hs
  rename_i u hu;simp at hs;obtain⟨rfl,rfl⟩:=hs;obtain⟨hr,iS⟩:=rdn hu;obtain⟨n,hn,e2⟩:=Kh h dG;have fc:=h.own p k' xs hp;rw[hn] at fc;obtain⟨cs,c1,c2,c3,c4⟩:=fc;have kQ:∀(j:Nat) (d:AV),el'.cells[j]?=some d->fz d=true/\∃ a,cs[i*k'+j]?=some a/\Le d a:=fun j d hd=>let ⟨f1,a,f2,_,f3⟩:=c4 _ d (Fc c3 hel hd); ⟨f1,a,f2,f3⟩
  have pq:∀y∈el'.cells.drop off,pl y=true:=by
   intro y hy;obtain⟨j,hj⟩:=bH (dB hy);exact (kD (kQ j y hj).1).1
  have hv:=plrd hr pq;have anN:el'.cells.length=k':=c3 el' (bt hel);have hi:(i+1)*k'<=xs.length*k':=bS k' (aC hel);rw[cT] at hi
  obtain⟨va,q1,q2⟩:=acH (ys:=cs.drop (i*k'+off)) hr (by simp; omega) (fun j x y hx hy=>by
   rw[br] at hx hy;obtain⟨_,a',a1,a2⟩:=kQ _ x hx;rw[show i*k'+(off+j)=i*k'+off+j by omega] at a1;rw[a1] at hy;cases hy;exact a2)
  refine fin (va:=va) (by simp only[nS,gU,hx.ev,e,ig,e2,c1,q1]; rfl) ?_ (vI _ hv) (nu iS);rw[mg N iS,lz N _ hv];exact q2
theorem akV (hm:P.follows .mixedOrders=true) (h:SB X φ w B base s (tm a)) (hg:Am.e9 (ju c) X φ w) {ag:Option Nat} {x:E} {ps:List Rt} (hk:dz P o.op (nS (.ld ag x))=true) (hs:Dj s ag (bC c s.env x)=some (v,ps)):nW P X φ w B base s v o a:=by
 obtain⟨N,Ha,h,hb⟩:=h;obtain⟨o',ho⟩:=alW hk;obtain⟨va,fl,e,hle,h2,h3⟩:=ajd h hg ho hs;refine nW.of (oh hm h hg hk e) fun v' w' φ' r hh ad=>?_;exact eR.quiet (h.m6 ad hh h.own (fun _ _=>rfl)) hb h2 h3 (hle _ _ _ r)
end
end Go.Bm
