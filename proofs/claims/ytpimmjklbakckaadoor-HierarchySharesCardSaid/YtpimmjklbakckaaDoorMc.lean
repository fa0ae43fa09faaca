/- The machine by value: what a state stands for. -/
import Derived.Test.YtpimmjklbakckaaDoorBmA
/- How a state by value stands for a state of the older machine. -/
set_option linter.unusedSimpArgs false
open Bool renaming and_eq_true → ae, or_eq_false_iff → dZ
open List renaming ext_getElem? → dq, getElem?_append_left → au, getElem?_append_right → aJ, getElem?_drop → aO, getElem?_eq_none → dU, getElem?_map → cF, getElem?_of_mem → bt, getElem?_set → aQ, getElem?_set_ne → kf, getElem?_take → bC, length_drop → dR, length_map → cS, length_replicate → cJ, length_take → bg, mem_append → aC, mem_cons → aK, mem_map_of_mem → qu, mem_of_getElem? → aU, mem_of_mem_drop → cQ, mem_of_mem_take → cP, mem_singleton → cD, replicate → aV
open List.cons renaming injEq → Mz
open Nat renaming add_mul → cj, le_refl → aG, mul_le_mul_right → bK, zero_add → eS, zero_mul → sk
open Ne renaming symm → tt
open Option renaming isSome_iff_exists → aM, map_some → bV
open Option.some renaming inj → bJ, injEq → af
open Prod.mk renaming injEq → aA
namespace Go.Bm
open Go.Am

structure Names where
 β:Nat->Nat
 ν:Rt->Option Nat

mutual
def cu (N:Names):AV->AV
 |.du k p off len=>match N.ν p with
   |some n=>.sl k n (off*k) len
   |none=>.di
 |.eR k p i off=>match N.ν p with
   |some n=>.ptr n (i*k+off)
   |none=>.any
 |.ptr b off=>.ptr (N.β b) off
 |.agg cs=>.agg (kj N cs)
 |.dA cs=>.dA (kj N cs)
 |.func f a b=>.func f (kj N a) (kj N b)
 |.own _ _=>.any
 |.sl k b off len=>.sl k (N.β b) off len
 |.any=>.any|.undef=>.undef|.fg=>.fg|.fj=>.fj|.di=>.di
 |.int k n=>.int k n|.bool b=>.bool b|.str s=>.str s
 |.list k xs=>.list k xs|.de cs=>.de cs
def kj (N:Names):List AV->List AV
 |[]=>[]
 |x::r=>cu N x::kj N r
end
def qI (N:Names) (p:Rt) (k len:Nat):AV:=
 match N.ν p with
 |some n=>.sl k n 0 len
 |none=>.di
def iJ (N:Names) (p:Rt):AV->AV
 |.own k xs=>qI N p k xs.length
 |v=>cu N v
def M3 (N:Names) (f:Nat->Rt):Nat->List AV->List AV
 |_,[]=>[]
 |j,x::r=>iJ N (f j) x::M3 N f (j+1) r
def jW (N:Names) (i:Nat):AV->AV
 |.agg cs=>.agg (M3 N (.sc i) 0 cs)
 |v=>iJ N (.s i) v
def ze (N:Names):Env->Env
 |[]=>[]
 |(i,v)::r=>(i,jW N i v)::ze N r

def Le (x y:AV):Prop:=∀R φ v,bD R φ y v->bD R φ x v
theorem Le.refl (x:AV):Le x x:=fun _ _ _ h=>h
theorem Le.trans {x y z:AV} (h:Le x y) (k:Le y z):Le x z:=fun R φ v r=>h R φ v (k R φ v r)
theorem Le.any (y:AV):Le .any y:=fun _ _ _ _=>.any _ _
theorem Le.agg {xs ys:List AV} (hl:xs.length=ys.length) (h:∀(i:Nat) (x y:AV),xs[i]?=some x->ys[i]?=some y->Le x y):Le (.agg xs) (.agg ys):=by
 intro R φ v r;cases r with
 |agg _ _ vs FG h2=>
   refine .agg _ _ _ (hl.trans FG) fun i c u hc hu=>?_;obtain⟨y,hy⟩:=aS (l:=ys) (i:=i) (by have:=aj hc; omega);exact h i c y hc hy _ _ _ (h2 i y u hy hu)
theorem Le.gj (k:Nat):Le (.list k []) .di:=by
 intro R φ v r;cases r with
 |di=>exact .j5 _ _

mutual
def ct (o:Rt->Option (Nat × List AV)) (nb:Nat):AV->Prop
 |.du k p off len=>∃xs,o p=some (k,xs)/\off+len<=xs.length
 |.eR k p i _=>∃xs,o p=some (k,xs)/\i<xs.length
 |.ptr b _=>b<nb
 |.agg cs=>jX o nb cs
 |.dA cs=>jX o nb cs
 |.func f a b=>jX o nb a/\jX o nb b/\(uF f=true->a=[]/\∃ c,b=[.ptr c 0])
 |.sl _ b _ _=>b<nb
 |_=>True
def jX (o:Rt->Option (Nat × List AV)) (nb:Nat):List AV->Prop
 |[]=>True
 |x::r=>ct o nb x/\jX o nb r
end
theorem fK {o:Rt->Option (Nat × List AV)} {nb:Nat}:∀{cs:List AV},jX o nb cs ↔ ∀(i:Nat) (c:AV),cs[i]?=some c->ct o nb c
 |[]=>by simp[jX]
 |x::r=>by
   simp only[jX,fK (cs:=r)];constructor
   ·rintro⟨h1,h2⟩ i c hc;cases i with
    |zero=>simp at hc; exact hc▸h1
    |succ i=>exact h2 i c (by simpa using hc)
   ·intro h;exact⟨h 0 x rfl,fun i c hc=>h (i+1) c (by simpa using hc)⟩

def qj (H:Heap) (o:Option Nat) (k:Nat) (xs:List AV):Prop:=
 match o with
 |none=>xs=[]
 |some n=>∃cs,aN H n=some cs/\xs.length*k<=cs.length/\(∀x∈xs,x.cells.length=k)/\∀ (i:Nat) (c:AV),(az xs)[i]?=some c->fz c=true/\∃ a,cs[i]?=some a/\a.leaf=true/\Le c a

structure dY (X:Nat->Prop) (φ:cX) (w:World) (N:Names) (s:St) (Ha:Heap) (t:Nat->Value):Prop where
 env:∀i,bD (Rd X φ w) φ (jW N i (get s.env i)) (t i)
 Cx:∀i,ct (aq s) s.H.length (get s.env i)
 heap:bO X φ w Ha
 own:∀p k xs,aq s p=some (k,xs)->qj Ha (N.ν p) k xs
 box:∀b cs,aN s.H b=some cs->∃as,aN Ha (N.β b)=some as/\as.length=cs.length/\∀ (j:Nat) (c:AV),cs[j]?=some c->ct (aq s) s.H.length c/\∃ a,as[j]?=some a/\Le (iJ N (.c b j) c) a
 inj:∀p q n,(aq s p).isSome->(aq s q).isSome->N.ν p=some n->N.ν q=some n->p=q
 bx:∀b p,(aN s.H b).isSome->(aq s p).isSome->N.ν p≠some (N.β b)
 bi:∀b c,(aN s.H b).isSome->(aN s.H c).isSome->N.β b=N.β c->b=c

/-! Lists and places -/
theorem lV (N:Names):∀(cs:List AV) (i:Nat),(kj N cs)[i]?=(cs[i]?).map (cu N)
 |[],i=>by simp[kj]
 |x::r,i=>by cases i<;>simp[kj,lV N r]
theorem dw (N:Names):∀cs:List AV,(kj N cs).length=cs.length
 |[]=>rfl
 |x::r=>by simp[kj,dw N r]
theorem fy (N:Names) (f:Nat->Rt):∀(cs:List AV) (j i:Nat),(M3 N f j cs)[i]?=(cs[i]?).map (iJ N (f (j+i)))
 |[],j,i=>by simp[M3]
 |x::r,j,i=>by
   cases i with
   |zero=>simp[M3]
   |succ i=>simp only[M3,List.getElem?_cons_succ,fy N f r]; rw[show j+1+i=j+(i+1) by omega]
theorem fN (N:Names) (f:Nat->Rt):∀(cs:List AV) (j:Nat),(M3 N f j cs).length=cs.length
 |[],j=>rfl
 |x::r,j=>by simp[M3,fN N f r]
theorem dV (g:AV->AV):∀(cs:List AV) (i:Nat),(cK g cs)[i]?=(cs[i]?).map (cC g)
 |[],i=>by simp[cK]
 |x::r,i=>by cases i<;>simp[cK,dV g r]
theorem cn (g:AV->AV):∀cs:List AV,(cK g cs).length=cs.length
 |[]=>rfl
 |x::r=>by simp[cK,cn g r]
theorem mF (N:Names):∀(e:Env) (i:Nat),get (ze N e) i=jW N i (get e i)
 |[],i=>rfl
 |(j,u)::r,i=>by
   simp only[ze,Am.get];split
   ·rename_i h; rw[h]
   ·exact mF N r i
theorem dc (g:AV->AV):∀(e:Env) (i:Nat),get (jQ g e) i=cC g (get e i)
 |[],i=>rfl
 |(j,u)::r,i=>by
   simp only[jQ,Am.get];split
   ·rfl
   ·exact dc g r i
theorem Eb (g:AV->AV):∀(H:Heap) (b:Nat),(fH g H)[b]?=(H[b]?).map (Option.map (cK g))
 |[],b=>by simp[fH]
 |none::r,b=>by cases b<;>simp[fH,Eb g r]
 |some cs::r,b=>by cases b<;>simp[fH,Eb g r]
theorem fe (g:AV->AV):∀H:Heap,(fH g H).length=H.length
 |[]=>rfl
 |none::r=>by simp[fH,fe g r]
 |some cs::r=>by simp[fH,fe g r]
theorem eZ (g:AV->AV) (H:Heap) (b:Nat):aN (fH g H) b=(aN H b).map (cK g):=by
 unfold aN;rw[Eb];cases H[b]? with
 |none=>rfl
 |some o=>cases o<;>rfl
theorem blk_iff {H:Heap} {b:Nat} {cs:List AV}:aN H b=some cs ↔ H[b]?=some (some cs):=by
 constructor
 ·exact q6
 ·intro h; unfold aN; rw[h]
theorem dp {H:Heap} {b:Nat} {cs:List AV} (h:aN H b=some cs):b<H.length:=aj (q6 h)
theorem df (H:Heap) (b c:Nat) (x:List AV):aN (H.set b (some x)) c=if c=b/\b<H.length then some x else aN H c:=by
 unfold aN;rw[aQ];by_cases h:b=c
 ·subst h;by_cases hl:b<H.length
  ·simp[hl]
  ·simp[hl,dU (Nat.le_of_not_lt hl)]
 ·simp[h,tt h]
theorem fG (H:Heap) (x:List AV) (c:Nat):aN (H++[some x]) c=if c=H.length then some x else aN H c:=by
 unfold aN;by_cases h:c<H.length
 ·rw[au h,if_neg (by omega)]
 ·rw[aJ (by omega)];by_cases h2:c=H.length
  ·subst h2; simp
  ·rw[if_neg h2,dU (l:=H) (by omega),dU (by simp; omega)]

def ja (x:AV):Prop:=∀cs,x≠.agg cs
def NOwn (x:AV):Prop:=∀k xs,x≠.own k xs
def jM (g:AV->AV):Prop:=∀k p o l,(ja (g (.du k p o l))/\NOwn (g (.du k p o l)))/\(ja (g (.eR k p o l))/\NOwn (g (.eR k p o l)))
theorem vF {g:AV->AV} (hg:jM g) (x:AV) (k:Nat) (xs:List AV):cC g x=.own k xs ↔ x=.own k xs:=by
 cases x<;>simp[cC]
 ·exact (hg _ _ _ _).1.2 _ _
 ·exact (hg _ _ _ _).2.2 _ _
theorem KP {g:AV->AV} (hg:jM g) (x:AV) (cs:List AV):cC g x=.agg cs ↔ ∃ds,x=.agg ds/\cK g ds=cs:=by
 cases x<;>simp[cC]
 ·exact (hg _ _ _ _).1.1 _
 ·exact (hg _ _ _ _).2.1 _
theorem lz {g:AV->AV} (hg:jM g) {x:AV} (h:ja x):ja (cC g x):=by
 intro cs e;obtain⟨ds,rfl,_⟩:=(KP hg x cs).1 e;exact h _ rfl
theorem iS {g:AV->AV} (hg:jM g) (s:St) (p:Rt):at_ (bX g s) p=(at_ s p).map (cC g):=by
 cases p with
 |s i=>simp[at_,bX,dc]
 |sc i j=>
   simp only[at_,bX,dc];generalize get s.env i=x;split
   ·rename_i cs h;obtain⟨ds,rfl,rfl⟩:=(KP hg x cs).1 h;simp[dV]
   ·rename_i h;split
    ·rename_i ds;exact absurd rfl (h (cK g ds))
    ·rfl
 |c b j=>
   simp only[at_,bX,eZ];cases aN s.H b with
   |none=>rfl
   |some cs=>simp[dV]
theorem bR {s:St} {p:Rt} {k:Nat} {xs:List AV}:aq s p=some (k,xs) ↔ at_ s p=some (.own k xs):=by
 unfold aq;split
 ·rename_i k' xs' h;rw[h];simp
 ·rename_i h;constructor
  ·intro h'; cases h'
  ·intro h'; exact absurd h' (h k xs)
theorem gK {g:AV->AV} (hg:jM g) (s:St) (p:Rt):aq (bX g s) p=aq s p:=by
 cases h:aq s p with
 |none=>
   cases h2:aq (bX g s) p with
   |none=>rfl
   |some y=>
     obtain⟨k,xs⟩:=y;rw[bR,iS hg] at h2;cases hx:at_ s p with
     |none=>rw[hx] at h2; cases h2
     |some x=>
       rw[hx] at h2;simp only[bV,af] at h2;rw[vF hg] at h2;subst h2;rw[bR.2 hx] at h;cases h
 |some y=>
   obtain⟨k,xs⟩:=y;rw[bR] at h ⊢;rw[iS hg,h];rfl

structure Shape (s s':St):Prop where
 agg:∀i cs,get s.env i=.agg cs->∃ds,get s'.env i=.agg ds/\ds.length=cs.length
 NC:∀i,ja (get s.env i)->ja (get s'.env i)
 len:s'.H.length=s.H.length
 box:∀b cs,aN s.H b=some cs->∃ds,aN s'.H b=some ds/\ds.length=cs.length
 Cf:∀b,aN s.H b=none->aN s'.H b=none
theorem Shape.refl (s:St):Shape s s:=⟨fun _ cs h=>⟨cs,h,rfl⟩,fun _ h=>h,rfl,fun _ cs h=>⟨cs,h,rfl⟩,fun _ h=>h⟩
theorem Shape.trans {s s' YF:St} (h:Shape s s') (k:Shape s' YF):Shape s YF:=
 ⟨fun i cs hc=>let ⟨ds,h1,h2⟩:=h.agg i cs hc; let ⟨es,h3,h4⟩:=k.agg i ds h1; ⟨es,h3,h4.trans h2⟩,fun i hi=>k.NC i (h.NC i hi),k.len.trans h.len,
  fun b cs hc=>let ⟨ds,h1,h2⟩:=h.box b cs hc; let ⟨es,h3,h4⟩:=k.box b ds h1; ⟨es,h3,h4.trans h2⟩,fun b hb=>k.Cf b (h.Cf b hb)⟩
theorem Shape.map {g:AV->AV} (hg:jM g) (s:St):Shape s (bX g s) where
 agg i cs h:=⟨cK g cs,by simp[bX,dc,h,cC],cn g cs⟩
 NC i h:=by simp only[bX,dc]; exact lz hg h
 len:=fe g s.H
 box b cs h:=⟨cK g cs,by simp[bX,eZ,h],cn g cs⟩
 Cf b h:=by simp[bX,eZ,h]
def Lf (s:St) (r:Rt):Prop:=∀i,r=.s i->ja (get s.env i)
def Fits (s:St) (p:Rt) (v:AV):Prop:=ja v/\∃ x,at_ s p=some x/\ja x
theorem Shape.set {s:St} {p:Rt} {v:AV} (h:Fits s p v):Shape s (setAt s p v):=by
 obtain⟨hv,x,hx,hn⟩:=h;cases p with
 |s i=>
   simp only[at_,af] at hx;refine⟨fun j cs hc=>?_,fun j hj=>?_,rfl,fun b cs hc=>⟨cs,hc,rfl⟩,fun b hb=>hb⟩
   ·simp only[setAt,bz];by_cases CF:j=i
    ·subst CF; rw[hx] at hc; exact absurd hc (hn cs)
    ·rw[if_neg CF]; exact⟨cs,hc,rfl⟩
   ·simp only[setAt,bz];by_cases CF:j=i
    ·rw[if_pos CF]; exact hv
    ·rw[if_neg CF]; exact hj
 |sc i l=>
   simp only[at_] at hx;cases hg:get s.env i<;>rw[hg] at hx<;>simp at hx
   rename_i ds;have hs:setAt s (.sc i l) v=⟨put s.env i (.agg (ds.set l v)),s.H⟩:=by simp[setAt,hg]
   rw[hs];refine⟨fun j cs hc=>?_,fun j hj=>?_,rfl,fun b cs hc=>⟨cs,hc,rfl⟩,fun b hb=>hb⟩
   ·simp only[bz];by_cases CF:j=i
    ·subst CF; rw[hg] at hc; cases hc; exact⟨_,if_pos rfl,by simp⟩
    ·rw[if_neg CF]; exact⟨cs,hc,rfl⟩
   ·simp only[bz];by_cases CF:j=i
    ·subst CF; exact absurd hg (hj ds)
    ·rw[if_neg CF]; exact hj
 |c b l=>
   simp only[at_] at hx;cases hg:aN s.H b<;>rw[hg] at hx<;>simp at hx
   rename_i ds;have hs:setAt s (.c b l) v=⟨s.env,s.H.set b (some (ds.set l v))⟩:=by simp[setAt,hg]
   rw[hs];refine⟨fun j cs hc=>⟨cs,hc,rfl⟩,fun j hj=>hj,by simp,fun d cs hc=>?_,fun d hd=>?_⟩
   ·rw[df];by_cases hdb:d=b
    ·subst hdb; rw[hg] at hc; cases hc; exact⟨_,if_pos ⟨rfl,dp hg⟩,by simp⟩
    ·rw[if_neg (fun h=>hdb h.1)]; exact⟨cs,hc,rfl⟩
   ·rw[df];by_cases hdb:d=b
    ·subst hdb; rw[hg] at hd; cases hd
    ·rw[if_neg (fun h=>hdb h.1)]; exact hd
theorem Br {s:St} {p:Rt} {v:AV} (h:Fits s p v) {r:Rt} (hr:Lf s r):at_ (setAt s p v) r=if r=p then some v else at_ s r:=by
 obtain⟨hv,x,hx,hn⟩:=h;cases p with
 |s i=>
   simp only[at_,af] at hx;cases r with
   |s j=>simp only[at_,setAt,bz]; by_cases CF:j=i<;>simp[CF]
   |sc j l=>
     simp only[at_,setAt,bz];by_cases CF:j=i
     ·subst CF;simp only[if_true,hx,reduceCtorEq,if_false];cases v<;>first|(exact absurd rfl (hv _))|(cases x<;>first|(exact absurd rfl (hn _))|rfl)
     ·simp[CF]
   |c b l=>simp[at_,setAt]
 |sc i l=>
   simp only[at_] at hx;cases hg:get s.env i<;>rw[hg] at hx<;>simp at hx
   rename_i ds;have hs:setAt s (.sc i l) v=⟨put s.env i (.agg (ds.set l v)),s.H⟩:=by simp[setAt,hg]
   rw[hs];cases r with
   |s j=>
     simp only[at_,bz,reduceCtorEq,if_false];by_cases CF:j=i
     ·subst CF;exact absurd hg (hr j rfl ds)
     ·simp[CF]
   |sc j m=>
     simp only[at_,bz];by_cases CF:j=i
     ·subst CF;simp only[if_true,hg,Rt.sc.injEq,true_and];rw[aQ];by_cases hlm:l=m
      ·subst hlm;have:=aj hx;simp[this]
      ·simp[hlm,tt hlm]
     ·simp[CF]
   |c b m=>simp[at_]
 |c b l=>
   simp only[at_] at hx;cases hg:aN s.H b<;>rw[hg] at hx<;>simp at hx
   rename_i ds;have hs:setAt s (.c b l) v=⟨s.env,s.H.set b (some (ds.set l v))⟩:=by simp[setAt,hg]
   rw[hs];cases r with
   |s j=>simp[at_]
   |sc j m=>simp[at_]
   |c d m=>
     simp only[at_,df];by_cases hdb:d=b
     ·subst hdb;simp only[dp hg,and_self,if_true,hg,Rt.c.injEq,true_and];rw[aQ];by_cases hlm:l=m
      ·subst hlm;have:=aj hx;simp[this]
      ·simp[hlm,tt hlm]
     ·simp[hdb]

theorem Wq {N N':Names} {i:Nat} {x y:AV} (h1:∀cs,x=.agg cs->∃ds,y=.agg ds/\ds.length=cs.length/\∀ (j:Nat) (c d:AV),cs[j]?=some c->ds[j]?=some d->Le (iJ N' (.sc i j) d) (iJ N (.sc i j) c))
  (h2:ja x->ja y/\Le (iJ N' (.s i) y) (iJ N (.s i) x)):Le (jW N' i y) (jW N i x):=by
 by_cases hx:∃cs,x=.agg cs
 ·obtain⟨cs,rfl⟩:=hx;obtain⟨ds,rfl,hl,h⟩:=h1 cs rfl;simp only[jW];refine Le.agg (by simp[fN,hl]) fun j u v hu hv=>?_;rw[fy] at hu hv;simp only[eS] at hu hv;cases hd:ds[j]? with
  |none=>rw[hd] at hu; cases hu
  |some d=>
    cases hc:cs[j]? with
    |none=>rw[hc] at hv; cases hv
    |some c=>
      rw[hd] at hu; rw[hc] at hv;simp at hu hv;subst hu hv;exact h j c d hc hd
 ·have hn:ja x:=fun cs e=>hx ⟨cs,e⟩;obtain⟨hy,hle⟩:=h2 hn;have e1:jW N' i y=iJ N' (.s i) y:=by cases y<;>first|rfl|exact absurd rfl (hy _)
  have e2:jW N i x=iJ N (.s i) x:=by cases x<;>first|rfl|exact absurd rfl (hn _)
  rw[e1,e2]; exact hle
theorem Fe {s:St} {i:Nat} {cs:List AV} (h:get s.env i=.agg cs) (j:Nat):at_ s (.sc i j)=cs[j]?:=by simp[at_,h]
theorem v8 {s:St} {b:Nat} {cs:List AV} (h:aN s.H b=some cs) (j:Nat):at_ s (.c b j)=cs[j]?:=by simp[at_,h]
theorem DO {s:St} {p:Rt} (h:(aq s p).isSome):Lf s p:=by
 intro i hi cs hc;subst hi;cases ho:aq s (.s i) with
 |none=>rw[ho] at h; cases h
 |some y=>
   obtain⟨k,xs⟩:=y;rw[bR] at ho;simp[at_,hc] at ho
theorem qj.take {H:Heap} {o:Option Nat} {k m:Nat} {xs:List AV} (h:qj H o k xs):qj H o k (xs.take m):=by
 cases o with
 |none=>simp only[qj] at h ⊢; rw[h]; simp
 |some n=>
   simp only[qj] at h ⊢;obtain⟨cs,h1,h2,h3,h4⟩:=h;refine⟨cs,h1,?_,fun x hx=>h3 x (cP hx),fun i c hc=>?_⟩
   ·rw[bg]; exact Nat.le_trans (bK k (Nat.min_le_right _ _)) h2
   ·refine h4 i c ?_
    have:∀(m:Nat) (l:List AV) (i:Nat) (c:AV),(az (l.take m))[i]?=some c->(az l)[i]?=some c:=by
     intro m
     induction m with
     |zero=>intro l i c h; simp[az] at h
     |succ m ih=>
       intro l i c h;cases l with
       |nil=>simpa using h
       |cons y r=>
         simp only[List.take_succ_cons,az] at h ⊢;rw[List.getElem?_append] at h ⊢;split
         ·rename_i bY; rw[if_pos bY] at h; exact h
         ·rename_i bY; rw[if_neg bY] at h; exact ih _ _ _ h
    exact this m xs i c hc
theorem DT {o:Rt->Option (Nat × List AV)} {nb:Nat} {s:St} (h:∀r y,Lf s r->at_ s r=some y->ct o nb y) :
  (∀i,ct o nb (get s.env i))/\∀ b cs,aN s.H b=some cs->∀(j:Nat) (c:AV),cs[j]?=some c->ct o nb c:=by
 refine⟨fun i=>?_,fun b cs hb j c hc=>h (.c b j) c (fun i e=>by cases e) (by rw[v8 hb]; exact hc)⟩;by_cases hx:∃cs,get s.env i=.agg cs
 ·obtain⟨cs,dB⟩:=hx;rw[dB];simp only[ct];exact fK.2 fun j c hc=>h (.sc i j) c (fun i e=>by cases e) (by rw[Fe dB]; exact hc)
 ·exact h (.s i) _ (fun j e cs hc=>by cases e; exact hx ⟨cs,hc⟩) rfl
theorem dY.zA {X:Nat->Prop} {φ:cX} {w:World} {N:Names} {s:St} {Ha:Heap} {t:Nat->Value} (h:dY X φ w N s Ha t) {r:Rt} {x:AV} (hx:at_ s r=some x):ct (aq s) s.H.length x:=by
 cases r with
 |s i=>simp[at_] at hx; exact hx▸h.Cx i
 |sc i j=>
   simp only[at_] at hx;split at hx
   ·rename_i cs dB;have:=h.Cx i;rw[dB] at this;simp only[ct] at this;exact fK.1 this j x hx
   ·cases hx
 |c b j=>
   simp only[at_] at hx;split at hx
   ·rename_i cs dB;obtain⟨as,_,_,h3⟩:=h.box b cs dB;exact (h3 j x hx).1
   ·cases hx
theorem Shape.back {s s':St} (h:Shape s s') {r:Rt} {y:AV} (hl:Lf s' r) (hy:at_ s' r=some y):Lf s r/\∃ x,at_ s r=some x:=by
 cases r with
 |s i=>
   refine⟨fun j e cs hc=>?_,_,rfl⟩;cases e;obtain⟨ds,h1,_⟩:=h.agg i cs hc;exact hl i rfl ds h1
 |sc i j=>
   refine⟨(fun j e=>by cases e),?_⟩;simp only[at_] at hy ⊢;split at hy
   ·rename_i ds nP;by_cases hx:∃cs,get s.env i=.agg cs
    ·obtain⟨cs,dB⟩:=hx;obtain⟨es,h1,h2⟩:=h.agg i cs dB;rw[nP] at h1; cases h1;rw[dB];exact aS (by have:=aj hy; omega)
    ·exact absurd nP (h.NC i (fun cs e=>hx ⟨cs,e⟩) ds)
   ·cases hy
 |c b j=>
   refine⟨(fun j e=>by cases e),?_⟩;simp only[at_] at hy ⊢;split at hy
   ·rename_i ds nP;cases hb:aN s.H b with
    |none=>rw[h.Cf b hb] at nP; cases nP
    |some cs=>
      obtain⟨es,h1,h2⟩:=h.box b cs hb;rw[nP] at h1; cases h1;exact aS (by have:=aj hy; omega)
   ·cases hy
theorem dY.change {X:Nat->Prop} {φ:cX} {w:World} {N N':Names} {s s':St} {Ha:Heap} {t:Nat->Value} (h:dY X φ w N s Ha t) (dX:N'.β=N.β) (hs:Shape s s')
  (hp:∀r x y,Lf s r->at_ s r=some x->at_ s' r=some y->ct (aq s') s'.H.length y/\Le (iJ N' r y) (iJ N r x))
  (src:Rt->Rt) (ho:∀p k xs,aq s' p=some (k,xs)->∃ys,aq s (src p)=some (k,ys)/\N'.ν p=N.ν (src p)/\∃ m,xs=ys.take m)
  (hi:∀p q,(aq s' p).isSome->(aq s' q).isSome->src p=src q->p=q):dY X φ w N' s' Ha t:=by
 have so:∀{p},(aq s' p).isSome->(aq s (src p)).isSome/\N'.ν p=N.ν (src p):=by
  intro p hp;cases e:aq s' p with
  |none=>rw[e] at hp; cases hp
  |some y=>obtain⟨ys,h1,h2,_⟩:=ho p y.1 y.2 e; exact⟨by rw[h1]; rfl,h2⟩
 have sb:∀{b},(aN s'.H b).isSome->(aN s.H b).isSome:=by
  intro b hb;cases e:aN s.H b with
  |none=>rw[hs.Cf b e] at hb; cases hb
  |some _=>rfl
 obtain⟨hk,Yk⟩:=DT (o:=aq s') (nb:=s'.H.length) (s:=s') fun r y hl hy=>by
  obtain⟨TH,x,hx⟩:=hs.back hl hy;exact (hp r x y TH hx hy).1
 refine⟨fun i=>?_,hk,h.heap,fun p k xs e=>?_,fun b cs' e=>?_,fun p q n h1 h2 e1 e2=>?_,fun b p h1 h2 e=>?_,fun b c h1 h2 e=>?_⟩
 ·refine Wq (fun cs dB=>?_) (fun hn=>⟨hs.NC i hn,?_⟩) _ _ _ (h.env i)
  ·obtain⟨ds,h1,h2⟩:=hs.agg i cs dB;refine⟨ds,h1,h2,fun j c d hc hd=>(hp (.sc i j) c d (fun i e=>by cases e) ?_ ?_).2⟩
   ·rw[Fe dB]; exact hc
   ·rw[Fe h1]; exact hd
  ·exact (hp (.s i) _ _ (fun j e=>by cases e; exact hn) rfl rfl).2
 ·obtain⟨ys,h1,h2,m,rfl⟩:=ho p k xs e;rw[h2];exact (h.own _ _ _ h1).take
 ·cases hb:aN s.H b with
  |none=>rw[hs.Cf b hb] at e; cases e
  |some cs=>
    obtain⟨ds,h1,h2⟩:=hs.box b cs hb;rw[e] at h1; cases h1;obtain⟨as,g1,g2,g3⟩:=h.box b cs hb;refine⟨as,by rw[dX]; exact g1,by omega,fun j c hc=>⟨Yk b cs' e j c hc,?_⟩⟩;obtain⟨d,hd⟩:=aS (l:=cs) (i:=j) (by have:=aj hc; omega);obtain⟨_,a,g4,g5⟩:=g3 j d hd;exact⟨a,g4,(hp (.c b j) d c (fun i e=>by cases e) (by rw[v8 hb]; exact hd) (by rw[v8 e]; exact hc)).2.trans g5⟩
 ·obtain⟨k1,k2⟩:=so h1;obtain⟨k3,k4⟩:=so h2;exact hi p q h1 h2 (h.inj _ _ n k1 k3 (by rw[<-k2]; exact e1) (by rw[<-k4]; exact e2))
 ·obtain⟨k1,k2⟩:=so h2;rw[k2,dX] at e;exact h.bx b _ (sb h1) k1 e
 ·rw[dX] at e;exact h.bi b c (sb h1) (sb h2) e

mutual
theorem Iy {N N':Names} {o o':Rt->Option (Nat × List AV)} {nb:Nat} {g:AV->AV} (dX:N'.β=N.β) (hg:jM g)
  (hl:∀k p a l,(ct o nb (.du k p a l)->ct o' nb (g (.du k p a l))/\Le (cu N' (g (.du k p a l))) (cu N (.du k p a l)))/\(ct o nb (.eR k p a l)->ct o' nb (g (.eR k p a l))/\Le (cu N' (g (.eR k p a l))) (cu N (.eR k p a l)))) :
  ∀ x,ct o nb x->ct o' nb (cC g x)/\Le (cu N' (cC g x)) (cu N x)
 |.du k p a l,h=>by simp only[cC]; exact (hl k p a l).1 h
 |.eR k p a l,h=>by simp only[cC]; exact (hl k p a l).2 h
 |.agg cs,h=>by
   simp only[ct] at h;obtain⟨h1,h2,h3⟩:=vI dX hg hl cs h;simp only[cC,ct,cu];exact⟨h1,Le.agg h2 h3⟩
 |.dA cs,h=>by
   simp only[ct] at h;obtain⟨h1,h2,h3⟩:=vI dX hg hl cs h;simp only[cC,ct,cu];refine⟨h1,fun R φ v r=>?_⟩;cases r with
   |dA _ _ vs FG W3=>
     refine .dA _ _ _ (h2.trans FG) fun i c u hc hu=>?_;obtain⟨y,hy⟩:=aS (l:=kj N cs) (i:=i) (by have:=aj hc; omega);exact h3 i c y hc hy _ _ _ (W3 i y u hy hu)
 |.func f a b,h=>by
   simp only[ct] at h;obtain⟨h1,h2,h3⟩:=vI dX hg hl a h.1;obtain⟨k1,k2,k3⟩:=vI dX hg hl b h.2.1;simp only[cC,ct,cu];refine⟨⟨h1,k1,fun hy=>by obtain⟨rfl,c,rfl⟩:=h.2.2 hy; exact⟨rfl,c,by simp only[cK,cC]⟩⟩,fun R φ v r=>?_⟩;rcases r.vR with⟨hy,va,vb,rfl,yL,yK,ha,hb⟩|⟨b0,r0,rfl,ea,eb,rfl,hb0,Yg⟩
   ·refine .func _ _ _ _ _ _ hy (h2.trans yL) (k2.trans yK) (fun i c u hc hu=>?_) (fun i c u hc hu=>?_)
    ·obtain⟨y,hy⟩:=aS (l:=kj N a) (i:=i) (by have:=aj hc; omega);exact h3 i c y hc hy _ _ _ (ha i y u hy hu)
    ·obtain⟨y,hy⟩:=aS (l:=kj N b) (i:=i) (by have:=aj hc; omega);exact k3 i c y hc hy _ _ _ (hb i y u hy hu)
   ·obtain⟨rfl,c,rfl⟩:=h.2.2 rfl;simp only[kj,cu,cK,cC,dX] at eb ⊢;simp only[Mz,AV.ptr.injEq,and_true] at eb;subst eb;exact .yw _ _ _ hb0 Yg
 |.any,h=>⟨h,Le.refl _⟩
 |.undef,h=>⟨h,Le.refl _⟩
 |.fg,h=>⟨h,Le.refl _⟩
 |.fj,h=>⟨h,Le.refl _⟩
 |.di,h=>⟨h,Le.refl _⟩
 |.int _ _,h=>⟨h,Le.refl _⟩
 |.bool _,h=>⟨h,Le.refl _⟩
 |.str _,h=>⟨h,Le.refl _⟩
 |.list _ _,h=>⟨h,Le.refl _⟩
 |.de _,h=>⟨h,Le.refl _⟩
 |.own _ _,h=>⟨h,Le.refl _⟩
 |.sl k b off len,h=>by simp only[cC,cu,dX]; exact⟨h,Le.refl _⟩
 |.ptr b off,h=>by simp only[cC,cu,dX]; exact⟨h,Le.refl _⟩
theorem vI {N N':Names} {o o':Rt->Option (Nat × List AV)} {nb:Nat} {g:AV->AV} (dX:N'.β=N.β) (hg:jM g)
  (hl:∀k p a l,(ct o nb (.du k p a l)->ct o' nb (g (.du k p a l))/\Le (cu N' (g (.du k p a l))) (cu N (.du k p a l)))/\(ct o nb (.eR k p a l)->ct o' nb (g (.eR k p a l))/\Le (cu N' (g (.eR k p a l))) (cu N (.eR k p a l)))) :
  ∀ cs,jX o nb cs->jX o' nb (cK g cs)/\(kj N' (cK g cs)).length=(kj N cs).length/\∀ (i:Nat) (x y:AV),(kj N' (cK g cs))[i]?=some x->(kj N cs)[i]?=some y->Le x y
 |[],_=>⟨trivial,rfl,fun i x y h=>by simp[cK,kj] at h⟩
 |c::r,h=>by
   simp only[jX] at h;obtain⟨h1,h2⟩:=Iy dX hg hl c h.1;obtain⟨k1,k2,k3⟩:=vI dX hg hl r h.2;refine⟨⟨h1,k1⟩,by simp[cK,kj,k2],fun i x y hx hy=>?_⟩;cases i with
   |zero=>simp[cK,kj] at hx hy; subst hx hy; exact h2
   |succ i=>simp[cK,kj] at hx hy; exact k3 i x y hx hy
end
theorem lC {N N':Names} {o o':Rt->Option (Nat × List AV)} {nb:Nat} {g:AV->AV} (dX:N'.β=N.β) (hg:jM g)
  (hl:∀k p a l,(ct o nb (.du k p a l)->ct o' nb (g (.du k p a l))/\Le (cu N' (g (.du k p a l))) (cu N (.du k p a l)))/\(ct o nb (.eR k p a l)->ct o' nb (g (.eR k p a l))/\Le (cu N' (g (.eR k p a l))) (cu N (.eR k p a l))))
  {r:Rt} {x:AV} (hr:∀k xs,x=.own k xs->N'.ν r=N.ν r) (hx:ct o nb x):ct o' nb (cC g x)/\Le (iJ N' r (cC g x)) (iJ N r x):=by
 by_cases ho:∃k xs,x=.own k xs
 ·obtain⟨k,xs,rfl⟩:=ho;simp only[cC,iJ,qI,hr k xs rfl];exact⟨trivial,Le.refl _⟩
 ·obtain⟨h1,h2⟩:=Iy dX hg hl x hx;refine⟨h1,?_⟩
  have e1:iJ N' r (cC g x)=cu N' (cC g x):=by
   have:∀k xs,cC g x≠.own k xs:=fun k xs e=>ho ⟨k,xs,(vF hg x k xs).1 e⟩;generalize cC g x=y at this;cases y<;>first|rfl|exact absurd rfl (this _ _)
  have e2:iJ N r x=cu N x:=by cases x<;>first|rfl|exact absurd ⟨_,_,rfl⟩ ho
  rw[e1,e2];exact h2
theorem Lf.map {g:AV->AV} (hg:jM g) {s:St} {r:Rt} (h:Lf s r):Lf (bX g s) r:=by
 intro i hi;simp only[bX,dc];exact lz hg (h i hi)
theorem Ei (p:Rt):jM (sw p):=by
 intro k q o l;simp only[sw];constructor<;>(split<;>exact⟨(fun cs e=>by cases e),(fun k xs e=>by cases e)⟩)
theorem adx (p q:Rt) (n:Nat):jM (rt p q n):=by
 intro k r o l;simp only[rt];constructor<;>(repeat' split)<;>exact⟨(fun cs e=>by cases e),(fun k xs e=>by cases e)⟩
theorem adA (p:Rt) (k:Nat) (xs:List AV):jM (fb p k xs):=by
 intro k r o l;simp only[fb];constructor<;>(repeat' split)<;>exact⟨(fun cs e=>by cases e),(fun k xs e=>by cases e)⟩
theorem adz (i d:Nat):jM (Tt i d):=by
 intro k r o l;simp only[Tt];exact⟨⟨(fun cs e=>by cases e),(fun k xs e=>by cases e)⟩,⟨(fun cs e=>by cases e),(fun k xs e=>by cases e)⟩⟩
theorem Rq (i b off:Nat):jM (ir i b off):=by
 intro k r o l;simp only[ir];exact⟨⟨(fun cs e=>by cases e),(fun k xs e=>by cases e)⟩,⟨(fun cs e=>by cases e),(fun k xs e=>by cases e)⟩⟩
theorem wU:jM kS:=by
 intro k r o l;cases r<;>exact⟨⟨(fun cs e=>by cases e),(fun k xs e=>by cases e)⟩,⟨(fun cs e=>by cases e),(fun k xs e=>by cases e)⟩⟩
theorem y0 {g:AV->AV} (hg:jM g) {s:St} {p:Rt} {v x:AV} (hv:ja v) (hx:at_ s p=some x) (hn:ja x) {r:Rt} (hr:Lf s r) :
  at_ (setAt (bX g s) p v) r=if r=p then some v else (at_ s r).map (cC g):=by
 rw[Br ⟨hv,cC g x,by rw[iS hg,hx]; rfl,lz hg hn⟩ (hr.map hg),iS hg]
theorem rV {g:AV->AV} (hg:jM g) {s:St} {p:Rt} {v x:AV} (hv:ja v) (hx:at_ s p=some x) (hn:ja x):Shape s (setAt (bX g s) p v):=
 (Shape.map hg s).trans (Shape.set ⟨hv,cC g x,by rw[iS hg,hx]; rfl,lz hg hn⟩)
theorem Ij {s s':St} {p q:Rt} (h:at_ s' p=at_ s q):aq s' p=aq s q:=by unfold aq; rw[h]
theorem gJ {s s':St} {p:Rt} (h:at_ s' p=at_ s p):aq s' p=aq s p:=by unfold aq; rw[h]
theorem sV {s:St} {q:Rt} (h:¬Lf s q):aq s q=none:=by
 cases e:aq s q with
 |none=>rfl
 |some y=>exact absurd (DO (by rw[e]; rfl)) h
theorem Shape.nlf {s s':St} (h:Shape s s') {q:Rt} (hq:¬Lf s q):¬Lf s' q:=fun hl=>hq fun i hi cs hc=>by
 obtain⟨ds,h1,_⟩:=h.agg i cs hc;exact hl i hi ds h1
theorem wP {s s':St} (iN:Shape s s') {f:Rt->Option (Nat × List AV)} (hf:∀q,Lf s q->aq s' q=f q) (hn:∀q,¬Lf s q->f q=none) (q:Rt):aq s' q=f q:=by
 by_cases hq:Lf s q
 ·exact hf q hq
 ·rw[hn q hq,sV (iN.nlf hq)]
theorem dY.drop {X:Nat->Prop} {φ:cX} {w:World} {N:Names} {s:St} {Ha:Heap} {t:Nat->Value} (h:dY X φ w N s Ha t) {p:Rt} {k:Nat} {xs:List AV} (hp:aq s p=some (k,xs)) :
  dY X φ w N (setAt (bX (sw p) s) p .any) Ha t/\(∀q,aq (setAt (bX (sw p) s) p .any) q=if q=p then none else aq s q)/\Shape s (setAt (bX (sw p) s) p .any):=by
 have u4:=bR.1 hp;have hn:ja (.own k xs):=fun cs e=>by cases e
 have hv:ja .any:=fun cs e=>by cases e
 have iN:=rV (Ei p) hv u4 hn;have key:∀{r},Lf s r->at_ (setAt (bX (sw p) s) p .any) r=if r=p then some .any else (at_ s r).map (cC (sw p)):=fun hr=>y0 (Ei p) hv u4 hn hr
 have own:∀q,aq (setAt (bX (sw p) s) p .any) q=if q=p then none else aq s q:=by
  refine wP iN (fun q hq=>?_) (fun q hq=>?_)
  ·have e:=key hq;by_cases oR:q=p
   ·subst oR; rw[if_pos rfl] at e ⊢; unfold aq; rw[e]
   ·rw[if_neg oR] at e ⊢;rw[<-gK (Ei p) s q];exact gJ (by rw[e,iS (Ei p)])
  ·split
   ·rfl
   ·exact sV hq
 refine⟨h.change rfl iN (fun r x y hl hx hy=>?_) id (fun q k' ys e=>?_) (fun q r _ _ e=>e),own,iN⟩
 ·rw[key hl] at hy;by_cases Ck:r=p
  ·rw[if_pos Ck] at hy;cases hy;exact⟨trivial,Le.any _⟩
  ·rw[if_neg Ck,hx] at hy;simp at hy;subst hy;have:=lC (N:=N) (N':=N) (o:=aq s) (o':=aq (setAt (bX (sw p) s) p .any)) (nb:=s.H.length) rfl (Ei p) (fun k q a l=>?_) (r:=r) (x:=x) (fun _ _ _=>rfl) (h.zA hx)
   ·rw[iN.len]; exact this
   ·simp only[sw];refine⟨fun ho=>?_,fun ho=>?_⟩
    ·split
     ·exact⟨trivial,Le.any _⟩
     ·rename_i oR;simp only[ct,own,if_neg oR] at ho ⊢;exact⟨ho,Le.refl _⟩
    ·split
     ·exact⟨trivial,Le.any _⟩
     ·rename_i oR;simp only[ct,own,if_neg oR] at ho ⊢;exact⟨ho,Le.refl _⟩
 ·rw[own] at e;split at e
  ·cases e
  ·exact⟨ys,e,rfl,ys.length,by simp⟩
theorem dY.give {X:Nat->Prop} {φ:cX} {w:World} {N:Names} {s:St} {Ha:Heap} {t:Nat->Value} (h:dY X φ w N s Ha t) {p q:Rt} {k k' len:Nat} {xs:List AV} (hp:aq s p=some (k,xs)) (hq:at_ s q=some (.du k' p 0 len)) :
  ∃ N',N'.β=N.β/\dY X φ w N' (setAt (setAt (bX (rt p q len) s) p .any) q (.own k (xs.take len))) Ha t/\(∀r,aq (setAt (setAt (bX (rt p q len) s) p .any) q (.own k (xs.take len))) r=if r=q then some (k,xs.take len) else if r=p then none else aq s r) /\
   Shape s (setAt (setAt (bX (rt p q len) s) p .any) q (.own k (xs.take len))):=by
 have cW:=h.zA hq;simp only[ct,hp,af,aA] at cW;obtain⟨_,⟨rfl,rfl⟩,hle⟩:=cW;have u4:=bR.1 hp;have hn:ja (.own k xs):=fun cs e=>by cases e
 have hv:ja .any:=fun cs e=>by cases e
 have oR:q≠p:=by rintro rfl; rw[u4] at hq; cases hq
 have qn:aq s q=none:=by unfold aq; rw[hq]
 have hg:=adx p q len;have Zy:∀{r},Lf s r->at_ (setAt (bX (rt p q len) s) p .any) r=if r=p then some .any else (at_ s r).map (cC (rt p q len)):=fun hr=>y0 hg hv u4 hn hr;have hsh1:Shape s (setAt (bX (rt p q len) s) p .any):=rV hg hv u4 hn;have hlq:Lf s q:=fun i hi cs hc=>by subst hi; simp[at_,hc] at hq
 have Yf:at_ (setAt (bX (rt p q len) s) p .any) q=some (cC (rt p q len) (.du k p 0 len)):=by rw[Zy hlq,if_neg oR,hq]; rfl
 have hn1:ja (cC (rt p q len) (.du k p 0 len)):=lz hg fun cs e=>by cases e
 have hv1:ja (.own k (xs.take len)):=fun cs e=>by cases e
 have ZO:Shape s (setAt (setAt (bX (rt p q len) s) p .any) q (.own k (xs.take len))):=hsh1.trans (Shape.set ⟨hv1,_,Yf,hn1⟩);have lf1:∀{r},Lf s r->Lf (setAt (bX (rt p q len) s) p .any) r:=fun hr i hi=>hsh1.NC i (hr i hi)
 have key:∀{r},Lf s r->at_ (setAt (setAt (bX (rt p q len) s) p .any) q (.own k (xs.take len))) r=if r=q then some (.own k (xs.take len)) else if r=p then some .any else (at_ s r).map (cC (rt p q len)):=by
  intro r hr;rw[Br ⟨hv1,_,Yf,hn1⟩ (lf1 hr),Zy hr]
 have own:∀r,aq (setAt (setAt (bX (rt p q len) s) p .any) q (.own k (xs.take len))) r=if r=q then some (k,xs.take len) else if r=p then none else aq s r:=by
  refine wP ZO (fun r hr=>?_) (fun r hr=>?_)
  ·have e:=key hr;by_cases h1:r=q
   ·rw[if_pos h1] at e ⊢; exact bR.2 e
   ·rw[if_neg h1] at e ⊢;by_cases h2:r=p
    ·rw[if_pos h2] at e ⊢; unfold aq; rw[e]
    ·rw[if_neg h2] at e ⊢;rw[<-gK hg s r];exact gJ (by rw[e,iS hg])
  ·rw[if_neg (by rintro rfl; exact hr hlq)];split
   ·rfl
   ·exact sV hr
 refine⟨⟨N.β,fun r=>if r=q then N.ν p else N.ν r⟩,rfl,h.change rfl ZO (fun r x y hl hx hy=>?_) (fun r=>if r=q then p else r) (fun r k' ys e=>?_) (fun r1 r2 e1 e2 e=>?_),own,ZO⟩
 ·rw[key hl] at hy;by_cases h1:r=q
  ·rw[if_pos h1] at hy;subst h1;rw[hq] at hx;cases hx;cases hy;refine⟨trivial,?_⟩;have hlen:(xs.take len).length=len:=by rw[bg]; omega
   simp only[iJ,cu,qI,if_true,hlen,sk];exact Le.refl _
  ·rw[if_neg h1] at hy;by_cases h2:r=p
   ·rw[if_pos h2] at hy;cases hy;exact⟨trivial,Le.any _⟩
   ·rw[if_neg h2,hx] at hy;simp at hy;subst hy;have:=lC (N:=N) (N':=⟨N.β,fun r=>if r=q then N.ν p else N.ν r⟩) (o:=aq s) (o':=aq (setAt (setAt (bX (rt p q len) s) p .any) q (.own k (xs.take len)))) (nb:=s.H.length) rfl hg (fun kk r' a l=>?_) (r:=r) (x:=x) (fun _ _ _=>by simp[h1]) (h.zA hx)
    ·rw[ZO.len]; exact this
    ·simp only[rt];refine⟨fun ho=>?_,fun ho=>?_⟩
     ·split
      ·rename_i Ck;subst Ck;split
       ·rename_i Jv;simp only[ct,hp,af,aA] at ho;obtain⟨_,⟨rfl,rfl⟩,_⟩:=ho;refine⟨?_,?_⟩
        ·simp only[ct,own,if_true];exact⟨_,rfl,by rw[bg]; omega⟩
        ·simp only[cu,if_true]; exact Le.refl _
       ·exact⟨trivial,Le.any _⟩
      ·rename_i Ck;simp only[ct] at ho ⊢;obtain⟨zs,hz,hz2⟩:=ho;have hrq:r'≠q:=by rintro rfl; rw[qn] at hz; cases hz
       refine⟨⟨zs,by rw[own,if_neg hrq,if_neg Ck]; exact hz,hz2⟩,?_⟩;simp only[cu,if_neg hrq]; exact Le.refl _
     ·split
      ·rename_i Ck;subst Ck;split
       ·rename_i Jv;simp only[ct,hp,af,aA] at ho;obtain⟨_,⟨rfl,rfl⟩,_⟩:=ho;refine⟨?_,?_⟩
        ·simp only[ct,own,if_true];exact⟨_,rfl,by rw[bg]; omega⟩
        ·simp only[cu,if_true]; exact Le.refl _
       ·exact⟨trivial,Le.any _⟩
      ·rename_i Ck;simp only[ct] at ho ⊢;obtain⟨zs,hz,hz2⟩:=ho;have hrq:r'≠q:=by rintro rfl; rw[qn] at hz; cases hz
       refine⟨⟨zs,by rw[own,if_neg hrq,if_neg Ck]; exact hz,hz2⟩,?_⟩;simp only[cu,if_neg hrq]; exact Le.refl _
 ·rw[own] at e;by_cases h1:r=q
  ·rw[if_pos h1] at e;simp only[af,aA] at e;obtain⟨rfl,rfl⟩:=e;exact⟨xs,by simp[h1,hp],by simp[h1,oR.symm],len,rfl⟩
  ·rw[if_neg h1] at e;by_cases h2:r=p
   ·rw[if_pos h2] at e; cases e
   ·rw[if_neg h2] at e;exact⟨ys,by simp[h1,e],by simp[h1],ys.length,by simp⟩
 ·have np:∀r,(aq (setAt (setAt (bX (rt p q len) s) p .any) q (.own k (xs.take len))) r).isSome->r≠p:=by
   intro r hr e;subst e;rw[own,if_neg (tt oR),if_pos rfl] at hr;cases hr
  by_cases h1:r1=q<;>by_cases h2:r2=q
  ·rw[h1,h2]
  ·simp only[h1,h2,if_true,if_false] at e;exact absurd e.symm (np r2 e2)
  ·simp only[h1,h2,if_true,if_false] at e;exact absurd e (np r1 e1)
  ·simpa only[h1,h2,if_false] using e
end Go.Bm

/- What is owned becomes a value by value. -/
namespace Go.Bm
open Go.Am

theorem z6 {k:Nat}:∀{xs:List AV},(∀x∈xs,x.cells.length=k)->∀{i j:Nat} {x c:AV},xs[i]?=some x->x.cells[j]?=some c->(az xs)[i*k+j]?=some c
 |[],_,i,j,x,c,h,_=>by simp at h
 |y::r,hk,i,j,x,c,h,hc=>by
   have hy:=hk y (by simp);cases i with
   |zero=>
     simp at h; subst h;simp only[az,sk,eS];rw[au (aj hc)];exact hc
   |succ i=>
     simp at h;have:=z6 (xs:=r) (fun z hz=>hk z (by simp[hz])) h hc;simp only[az];rw[aJ (by rw[hy,cj]; omega),hy,cj,show i*k+1*k+j-k=i*k+j by omega];exact this
mutual
theorem fQ:∀x:AV,pl x=true->x.plain=true
 |.agg cs,h=>by simp only[pl] at h; simp only[AV.plain]; exact sU cs h
 |.dA cs,h=>by simp only[pl] at h; simp only[AV.plain]; exact sU cs h
 |.func _ a b,h=>by simp only[pl,ae] at h; simp only[AV.plain,ae]; exact⟨sU a h.2.1,sU b h.2.2⟩
 |.any,_=>rfl
 |.undef,_=>rfl
 |.fg,_=>rfl
 |.fj,_=>rfl
 |.di,_=>rfl
 |.int _ _,_=>rfl
 |.bool _,_=>rfl
 |.str _,_=>rfl
 |.list _ _,_=>rfl
 |.de _,_=>rfl
 |.own _ _,h=>by simp[pl] at h
 |.du _ _ _ _,h=>by simp[pl] at h
 |.eR _ _ _ _,h=>by simp[pl] at h
 |.ptr _ _,h=>by simp[pl] at h
 |.sl _ _ _ _,h=>by simp[pl] at h
theorem sU:∀cs:List AV,eC cs=true->qF cs=true
 |[],_=>rfl
 |x::r,h=>by simp only[eC,ae] at h; simp only[qF,ae]; exact⟨fQ x h.1,sU r h.2⟩
end
theorem lI {c:AV} (h:fz c=true):pl c=true/\c.leaf=true:=by
 unfold fz at h;simp only[ae] at h;exact⟨h.2,h.1⟩
section
variable {X:Nat->Prop} {φ:cX} {w:World} {Ha:Heap}
theorem wO (h:bO X φ w Ha) {n k:Nat} {xs:List AV} (ho:qj Ha (some n) k xs) :
  ∃ g sz,φ[n]?=some (some (g,sz))/\¬ X g/\∀ (i j:Nat) (x c:AV),xs[i]?=some x->x.cells[j]?=some c->∃u,w.cell? ⟨g,i*k+j,none⟩=some u/\fz c=true/\bD (Rd X φ w) [] c u:=by
 obtain⟨cs,h1,h2,h3,h4⟩:=ho;obtain⟨g,sz,arr,e,g1,g2,g3,g4,g5,g6⟩:=h.at h1;refine⟨g,sz,g1,g5,fun i j x c hx hc=>?_⟩;obtain⟨f1,a,f2,lf,f3⟩:=h4 _ c (z6 h3 hx hc);obtain⟨u,u1,u2⟩:=g6 _ a f2;obtain⟨te,rfl,_⟩:=g3.leaf u1 u2 lf;exact⟨u,by rw[gP g2]; exact u1,f1,(f3 _ _ _ u2).dx (fQ _ (lI f1).1) []⟩
theorem U9 {n g sz:Nat} (h:bO X φ w Ha) (jT:φ[n]?=some (some (g,sz))) {o:Nat} {u:Value} (hX:¬X g) (hu:w.cell? ⟨g,o,none⟩=some u):Rd X (φ.set n none) w ⟨g,o,none⟩ u:=by
 refine⟨hX,fun⟨b,o0,hb⟩=>?_,hu⟩;rw[aQ] at hb;split at hb
 ·split at hb<;>simp at hb
 ·rename_i tn;exact tn (h.inj n b g sz o0 jT hb)
theorem U8 (n:Nat):∀a u,Rd X φ w a u->Rd X (φ.set n none) w a u:=fun _ _ ⟨h1,h2,h3⟩=>⟨h1,fun h=>h2 (GK h),h3⟩
theorem E9 (h:bO X φ w Ha) {n k:Nat} {xs:List AV} (ho:qj Ha (some n) k xs) {off len:Nat} (hle:off+len<=xs.length) {v:Value} (r:bD (Rd X φ w) φ (.sl k n (off*k) len) v) (ψ:cX) :
  bD (Rd X (φ.set n none) w) ψ (.list k ((xs.drop off).take len)) v:=by
 cases r with
 |sl _ _ _ _ _ a cap hb iO hh=>
   obtain⟨g,sz,jT,hX,hc⟩:=wO h ho;obtain⟨h1,h2⟩:=hh g sz jT;by_cases h0:len=0
   ·subst h0;simp only[List.take_zero];exact .uU _ _ _ _ _ _ (fun _ _=>undef) rfl iO (fun x hx=>by simp at hx) (fun i j x c hx=>by simp at hx) (fun i j x c hx=>by simp at hx)
   ·have ha:=h1 (by omega);subst ha
    have hx:∀(i:Nat) (x:AV),((xs.drop off).take len)[i]?=some x->xs[off+i]?=some x/\i<len:=by
     intro i x hx;rw[bC] at hx;split at hx
     ·rw[aO] at hx; exact⟨hx,‹_›⟩
     ·cases hx
    obtain⟨cs,q1,q2,hk,q4⟩:=ho;refine .uU _ _ _ _ _ _ (fun i j=>(w.cell? ⟨g,(off+i)*k+j,none⟩).getD undef) (by simp; omega) iO (fun x hm=>?_) (fun i j x c hi hj=>?_) (fun i j x c hi hj=>?_)
    ·exact hk x (cQ (cP hm))
    ·obtain⟨u,u1,_,_⟩:=hc _ j x c (hx i x hi).1 hj;rw[u1,Addr.iq,show off*k+(i*k+j)=(off+i)*k+j by rw[cj]; omega];exact U9 h jT hX u1
    ·obtain⟨u,u1,_,u3⟩:=hc _ j x c (hx i x hi).1 hj;rw[u1];exact u3.mono (U8 n) (.refl _)
theorem Ug (h:bO X φ w Ha) {n k:Nat} {xs:List AV} (ho:qj Ha (some n) k xs) {i o:Nat} {x:AV} (hx:xs[i]?=some x) {v:Value} (r:bD (Rd X φ w) φ (.ptr n (i*k+o)) v) (ψ:cX) :
  bD (Rd X (φ.set n none) w) ψ (.de (x.cells.drop o)) v:=by
 cases r with
 |ptr _ _ _ a hb hh=>
   obtain⟨g,sz,jT,hX,hc⟩:=wO h ho;have ha:=(hh g sz jT).1;subst ha;refine .de _ _ _ (fun j=>(w.cell? ⟨g,i*k+(o+j),none⟩).getD undef) (fun j c hj=>?_) (fun j c hj=>?_)
   ·rw[aO] at hj;obtain⟨u,u1,_,_⟩:=hc i (o+j) x c hx hj;rw[u1,Addr.iq,show i*k+o+j=i*k+(o+j) by omega];exact U9 h jT hX u1
   ·rw[aO] at hj;obtain⟨u,u1,_,u3⟩:=hc i (o+j) x c hx hj;rw[u1];exact u3.mono (U8 n) (.refl _)
end
theorem YN {R R':Addr->Value->Prop} {φ φ':cX} {N N':Names} {i:Nat} {x y:AV} (h1:∀cs,x=.agg cs->∃ds,y=.agg ds/\ds.length=cs.length/\∀ (j:Nat) (c d:AV),cs[j]?=some c->ds[j]?=some d->∀u,bD R φ (iJ N (.sc i j) c) u->bD R' φ' (iJ N' (.sc i j) d) u)
  (h2:ja x->ja y/\∀ v,bD R φ (iJ N (.s i) x) v->bD R' φ' (iJ N' (.s i) y) v) {v:Value} (hv:bD R φ (jW N i x) v):bD R' φ' (jW N' i y) v:=by
 by_cases hx:∃cs,x=.agg cs
 ·obtain⟨cs,rfl⟩:=hx;obtain⟨ds,rfl,hl,h⟩:=h1 cs rfl;simp only[jW] at hv ⊢;cases hv with
  |agg _ _ vs FG hh=>
    rw[fN] at FG;refine .agg _ _ _ (by rw[fN]; omega) fun j c u hc hu=>?_;rw[fy] at hc;simp only[eS] at hc;cases hd:ds[j]? with
    |none=>rw[hd] at hc; cases hc
    |some d=>
      rw[hd] at hc;simp at hc;subst hc;obtain⟨c,hc⟩:=aS (l:=cs) (i:=j) (by have:=aj hd; omega);exact h j c d hc hd u (hh j _ u (by rw[fy,hc]; simp) hu)
 ·have hn:ja x:=fun cs e=>hx ⟨cs,e⟩;obtain⟨hy,hle⟩:=h2 hn;have e1:jW N' i y=iJ N' (.s i) y:=by cases y<;>first|rfl|exact absurd rfl (hy _)
  have e2:jW N i x=iJ N (.s i) x:=by cases x<;>first|rfl|exact absurd rfl (hn _)
  rw[e2] at hv;rw[e1];exact hle v hv
mutual
theorem JX {R R':Addr->Value->Prop} {φ φ':cX} {N N':Names} {o o':Rt->Option (Nat × List AV)} {nb:Nat} {g:AV->AV} (hR:∀a u,R a u->R' a u) (jT:wk φ φ') (dX:N'.β=N.β)
  (hl:∀k p a l,(ct o nb (.du k p a l)->ct o' nb (g (.du k p a l))/\∀ v,bD R φ (cu N (.du k p a l)) v->bD R' φ' (cu N' (g (.du k p a l))) v)/\(ct o nb (.eR k p a l)->ct o' nb (g (.eR k p a l))/\∀ v,bD R φ (cu N (.eR k p a l)) v->bD R' φ' (cu N' (g (.eR k p a l))) v)) :
  ∀ x,ct o nb x->ct o' nb (cC g x)/\∀ v,bD R φ (cu N x) v->bD R' φ' (cu N' (cC g x)) v
 |.du k p a l,h=>by simp only[cC]; exact (hl k p a l).1 h
 |.eR k p a l,h=>by simp only[cC]; exact (hl k p a l).2 h
 |.agg cs,h=>by
   simp only[ct] at h;obtain⟨h1,h3⟩:=sI hR jT dX hl cs h;simp only[cC,ct,cu];refine⟨h1,fun v r=>?_⟩;cases r with
   |agg _ _ vs FG W3=>
     refine .agg _ _ _ (by simp only[dw,cn] at FG ⊢; exact FG) fun i c u hc hu=>?_;exact h3 i c u hc (fun y hy=>W3 i y u hy hu)
 |.dA cs,h=>by
   simp only[ct] at h;obtain⟨h1,h3⟩:=sI hR jT dX hl cs h;simp only[cC,ct,cu];refine⟨h1,fun v r=>?_⟩;cases r with
   |dA _ _ vs FG W3=>
     refine .dA _ _ _ (by simp only[dw,cn] at FG ⊢; exact FG) fun i c u hc hu=>?_;exact h3 i c u hc (fun y hy=>W3 i y u hy hu)
 |.func f a b,h=>by
   simp only[ct] at h;obtain⟨h1,h3⟩:=sI hR jT dX hl a h.1;obtain⟨k1,k3⟩:=sI hR jT dX hl b h.2.1;simp only[cC,ct,cu];refine⟨⟨h1,k1,fun hy=>by obtain⟨rfl,c,rfl⟩:=h.2.2 hy; exact⟨rfl,c,by simp only[cK,cC]⟩⟩,fun v r=>?_⟩;rcases r.vR with⟨hy,va,vb,rfl,yL,yK,ha,hb⟩|⟨b0,r0,rfl,ea,eb,rfl,hb0,Yg⟩
   ·refine .func _ _ _ _ _ _ hy (by simp only[dw,cn] at yL ⊢; exact yL) (by simp only[dw,cn] at yK ⊢; exact yK) (fun i c u hc hu=>?_) (fun i c u hc hu=>?_)
    ·exact h3 i c u hc (fun y hy=>ha i y u hy hu)
    ·exact k3 i c u hc (fun y hy=>hb i y u hy hu)
   ·obtain⟨rfl,c,rfl⟩:=h.2.2 rfl;simp only[kj,cu,cK,cC,dX] at eb ⊢;simp only[Mz,AV.ptr.injEq,and_true] at eb;subst eb;exact (bD.yw (R:=R) _ _ _ hb0 Yg).mono hR jT
 |.any,h=>⟨h,fun v r=>r.mono hR jT⟩
 |.undef,h=>⟨h,fun v r=>r.mono hR jT⟩
 |.fg,h=>⟨h,fun v r=>r.mono hR jT⟩
 |.fj,h=>⟨h,fun v r=>r.mono hR jT⟩
 |.di,h=>⟨h,fun v r=>r.mono hR jT⟩
 |.int _ _,h=>⟨h,fun v r=>r.mono hR jT⟩
 |.bool _,h=>⟨h,fun v r=>r.mono hR jT⟩
 |.str _,h=>⟨h,fun v r=>r.mono hR jT⟩
 |.list _ _,h=>⟨h,fun v r=>r.mono hR jT⟩
 |.de _,h=>⟨h,fun v r=>r.mono hR jT⟩
 |.own _ _,h=>⟨h,fun v r=>r.mono hR jT⟩
 |.sl _ b _ _,h=>by simp only[cC,cu,dX]; exact⟨h,fun v r=>r.mono hR jT⟩
 |.ptr b off,h=>by simp only[cC,cu,dX]; exact⟨h,fun v r=>r.mono hR jT⟩
theorem sI {R R':Addr->Value->Prop} {φ φ':cX} {N N':Names} {o o':Rt->Option (Nat × List AV)} {nb:Nat} {g:AV->AV} (hR:∀a u,R a u->R' a u) (jT:wk φ φ') (dX:N'.β=N.β)
  (hl:∀k p a l,(ct o nb (.du k p a l)->ct o' nb (g (.du k p a l))/\∀ v,bD R φ (cu N (.du k p a l)) v->bD R' φ' (cu N' (g (.du k p a l))) v)/\(ct o nb (.eR k p a l)->ct o' nb (g (.eR k p a l))/\∀ v,bD R φ (cu N (.eR k p a l)) v->bD R' φ' (cu N' (g (.eR k p a l))) v)) :
  ∀ cs,jX o nb cs->jX o' nb (cK g cs)/\∀ (i:Nat) (x:AV) (u:Value),(kj N' (cK g cs))[i]?=some x->(∀y,(kj N cs)[i]?=some y->bD R φ y u)->bD R' φ' x u
 |[],_=>⟨trivial,fun i x u h=>by simp[cK,kj] at h⟩
 |c::r,h=>by
   simp only[jX] at h;obtain⟨h1,h2⟩:=JX hR jT dX hl c h.1;obtain⟨k1,k3⟩:=sI hR jT dX hl r h.2;refine⟨⟨h1,k1⟩,fun i x u hx hy=>?_⟩;cases i with
   |zero=>simp[cK,kj] at hx hy; subst hx; exact h2 u hy
   |succ i=>simp[cK,kj] at hx hy; exact k3 i x u hx hy
end
theorem vV (L:Nat) (G:Nat->OP):∃H:Heap,H.length=L/\∀ m,m<L->H[m]?=some (G m):=
 ⟨(List.range L).map G,by simp,fun m hm=>by simp[hm]⟩
theorem HU {N N':Names} {g:AV->AV} (hg:jM g) {r:Rt} {x:AV} (ho:NOwn x):iJ N r x=cu N x/\iJ N' r (cC g x)=cu N' (cC g x):=by
 constructor
 ·cases x<;>first|rfl|exact absurd rfl (ho _ _)
 ·have:∀k xs,cC g x≠.own k xs:=fun k xs e=>ho k xs ((vF hg x k xs).1 e);generalize cC g x=y at this;cases y<;>first|rfl|exact absurd rfl (this _ _)
theorem dY.Bj {X:Nat->Prop} {φ:cX} {w:World} {N:Names} {s:St} {Ha:Heap} {t:Nat->Value} (h:dY X φ w N s Ha t) (p:Rt) :
  ∃ φ' Ha',dY X φ' w N (EI s p) Ha' t/\eT φ w φ' w/\(∀q,aq (EI s p) q=if q=p then none else aq s q)/\Shape s (EI s p):=by
 unfold EI;cases hp:aq s p with
 |none=>
   refine⟨φ,Ha,h,.refl _ _,fun q=>?_,.refl _⟩;by_cases e:q=p
   ·rw[if_pos e,e]; exact hp
   ·rw[if_neg e]
 |some y=>
   obtain⟨k,xs⟩:=y;simp only;have u4:=bR.1 hp;have hn:ja (.own k xs):=fun cs e=>by cases e
   have hv:ja (.list k xs):=fun cs e=>by cases e
   have hg:=adA p k xs;have iN:=rV hg hv u4 hn;generalize Lw:setAt (bX (fb p k xs) s) p (.list k xs)=s' at iN ⊢;have key:∀{r},Lf s r->at_ s' r=if r=p then some (.list k xs) else (at_ s r).map (cC (fb p k xs)):=fun hr=>by rw[<-Lw]; exact y0 hg hv u4 hn hr
   have own:∀q,aq s' q=if q=p then none else aq s q:=by
    refine wP iN (fun q hq=>?_) (fun q hq=>?_)
    ·have e:=key hq;by_cases oR:q=p
     ·subst oR; rw[if_pos rfl] at e ⊢; unfold aq; rw[e]
     ·rw[if_neg oR] at e ⊢;rw[<-gK hg s q];exact gJ (by rw[e,iS hg])
    ·split
     ·rfl
     ·exact sV hq
   have eG:=h.own p k xs hp;cases kM:N.ν p with
   |none=>
     rw[kM] at eG;have eG:xs=[]:=eG;subst eG;refine⟨φ,Ha,h.change rfl iN (fun r x y hl hx hy=>?_) id (fun q k' ys e=>?_) (fun q r _ _ e=>e),.refl _ _,own,iN⟩
     ·rw[key hl] at hy;by_cases Ck:r=p
      ·rw[if_pos Ck] at hy;subst Ck;rw[u4] at hx;cases hx; cases hy;refine⟨trivial,?_⟩;simp only[iJ,cu,qI,kM];exact Le.gj k
      ·rw[if_neg Ck,hx] at hy;simp at hy;subst hy;have:=lC (N:=N) (N':=N) (o:=aq s) (o':=aq s') (nb:=s.H.length) rfl hg (fun k' q a l=>?_) (r:=r) (x:=x) (fun _ _ _=>rfl) (h.zA hx)
       ·rw[iN.len]; exact this
       ·simp only[fb];refine⟨fun ho=>?_,fun ho=>?_⟩
        ·by_cases oR:q=p
         ·rw[if_pos oR];subst oR;simp only[ct,hp,af,aA] at ho;obtain⟨_,⟨rfl,rfl⟩,hle⟩:=ho;rw[if_pos ⟨rfl,hle⟩];refine⟨trivial,?_⟩;simp only[cu,kM,List.drop_nil,List.take_nil];exact Le.gj k
         ·rw[if_neg oR];simp only[ct,own,if_neg oR] at ho ⊢;exact⟨ho,Le.refl _⟩
        ·by_cases oR:q=p
         ·subst oR;simp only[ct,hp,af,aA] at ho;obtain⟨_,⟨rfl,rfl⟩,hle⟩:=ho;simp at hle
         ·rw[if_neg oR];simp only[ct,own,if_neg oR] at ho ⊢;exact⟨ho,Le.refl _⟩
     ·rw[own] at e;split at e
      ·cases e
      ·exact⟨ys,e,rfl,ys.length,by simp⟩
   |some n=>
     rw[kM] at eG;obtain⟨_,tM⟩:=h.heap.Ww n;have hr2:∀a u,Rd X φ w a u->Rd X (φ.set n none) w a u:=tM.rd
     have conv:∀r x y,Lf s r->at_ s r=some x->at_ s' r=some y->ct (aq s') s'.H.length y/\∀ v,bD (Rd X φ w) φ (iJ N r x) v->bD (Rd X (φ.set n none) w) (φ.set n none) (iJ N r y) v:=by
      intro r x y hl hx hy;rw[key hl] at hy;by_cases Ck:r=p
      ·rw[if_pos Ck] at hy;subst Ck;rw[u4] at hx;cases hx; cases hy;refine⟨trivial,fun v hv=>?_⟩;simp only[iJ,cu,qI,kM] at hv ⊢;have:=E9 h.heap eG (off:=0) (len:=xs.length) (by omega) (by simpa using hv) (φ.set n none);simpa using this
      ·rw[if_neg Ck,hx] at hy;simp at hy;subst hy
       have RH:=JX (R:=Rd X φ w) (R':=Rd X (φ.set n none) w) (φ:=φ) (φ':=φ.set n none) (N:=N) (N':=N) (o:=aq s) (o':=aq s') (nb:=s.H.length) (g:=fb p k xs) hr2 tM.QN rfl (fun k' q a l=>by
        simp only[fb];refine⟨fun ho=>?_,fun ho=>?_⟩
        ·by_cases oR:q=p
         ·rw[if_pos oR];subst oR;simp only[ct,hp,af,aA] at ho;obtain⟨_,⟨rfl,rfl⟩,hle⟩:=ho;rw[if_pos ⟨rfl,hle⟩];refine⟨trivial,fun v hv=>?_⟩;simp only[cu,kM] at hv ⊢;exact E9 h.heap eG hle hv _
         ·rw[if_neg oR];simp only[ct,own,if_neg oR] at ho ⊢;exact⟨ho,fun v hv=>hv.mono hr2 tM.QN⟩
        ·by_cases oR:q=p
         ·rw[if_pos oR];subst oR;simp only[ct,hp,af,aA] at ho;obtain⟨_,⟨rfl,rfl⟩,hle⟩:=ho;rw[if_pos rfl];obtain⟨x,hx⟩:=aS hle;rw[hx];refine⟨trivial,fun v hv=>?_⟩;simp only[cu,kM] at hv ⊢;exact Ug h.heap eG hx hv _
         ·rw[if_neg oR];simp only[ct,own,if_neg oR] at ho ⊢;exact⟨ho,fun v hv=>hv.mono hr2 tM.QN⟩) x (h.zA hx)
       refine⟨by rw[iN.len]; exact RH.1,fun v hv=>?_⟩;by_cases hxo:∃k' ys,x=.own k' ys
       ·obtain⟨k',ys,rfl⟩:=hxo;simp only[cC,iJ,qI] at hv ⊢;exact hv.mono hr2 tM.QN
       ·obtain⟨e1,e2⟩:=HU (N:=N) (N':=N) hg (r:=r) (x:=x) (fun k ys e=>hxo ⟨k,ys,e⟩);rw[e1] at hv;rw[e2];exact RH.2 v hv
     obtain⟨hk,Yk⟩:=DT (o:=aq s') (nb:=s'.H.length) (s:=s') fun r y hl hy=>by
      obtain⟨TH,x,hx⟩:=iN.back hl hy;exact (conv r x y TH hx hy).1
     have sb:∀{b},(aN s'.H b).isSome->(aN s.H b).isSome:=by
      intro b hb;cases e:aN s.H b with
      |none=>rw[iN.Cf b e] at hb; cases hb
      |some _=>rfl
     have so:∀{q},(aq s' q).isSome->(aq s q).isSome/\q≠p:=by
      intro q hq;rw[own] at hq;by_cases e:q=p
      ·rw[if_pos e] at hq; cases hq
      ·rw[if_neg e] at hq; exact⟨hq,e⟩
     classical
     obtain⟨Ha',hL,hG⟩:=vV Ha.length (fun m=>if m=n then none else if hb:∃z:Nat × List AV,aN s'.H z.1=some z.2/\N.β z.1=m then some (M3 N (.c hb.choose.1) 0 hb.choose.2) else (Ha[m]?).getD none)
     have hbox:∀b cs,aN s'.H b=some cs->aN Ha' (N.β b)=some (M3 N (.c b) 0 cs):=by
      intro b cs hb;obtain⟨Ux,Cn⟩:=aM.1 (sb (by rw[hb]; rfl:(aN s'.H b).isSome));obtain⟨as,g1,_⟩:=h.box b Ux Cn;rw[blk_iff,hG _ (dp g1)];have tn:N.β b≠n:=fun e=>h.bx b p (by rw[Cn]; rfl) (by rw[hp]; rfl) (by rw[kM,e]);have hex:∃z:Nat × List AV,aN s'.H z.1=some z.2/\N.β z.1=N.β b:=⟨(b,cs),hb,rfl⟩;rw[if_neg tn,dif_pos hex];have e1:hex.choose.1=b:=h.bi _ _ (sb (by rw[hex.choose_spec.1]; rfl)) (by rw[Cn]; rfl) hex.choose_spec.2
      have e2:hex.choose.2=cs:=by
       have:=hex.choose_spec.1;rw[e1,hb] at this;exact (bJ this).symm
      rw[e2,e1]
     have Bb:∀m,m≠n->(¬∃z:Nat × List AV,aN s'.H z.1=some z.2/\N.β z.1=m)->Ha'[m]?=Ha[m]?:=by
      intro m hm TG;by_cases bY:m<Ha.length
      ·rw[hG m bY,if_neg hm,dif_neg TG];obtain⟨x,hx⟩:=aS bY;rw[hx]; rfl
      ·rw[dU (by omega),dU (by omega)]
     refine⟨φ.set n none,Ha',⟨fun i=>?_,hk,⟨?_,h.heap.FK,fun m cs hm=>?_,fun m hm=>?_,fun m m' g sz o0 e1 e2=>?_⟩,fun q k' ys e=>?_,fun b cs e=>?_,fun q r m e1 e2 e3 e4=>?_,fun b q e1 e2 e3=>?_,fun b c e1 e2 e3=>?_⟩,tM,own,iN⟩
     ·refine YN (fun cs dB=>?_) (fun hnn=>⟨iN.NC i hnn,?_⟩) (h.env i)
      ·obtain⟨ds,h1,h2⟩:=iN.agg i cs dB;refine⟨ds,h1,h2,fun j c d hc hd=>(conv (.sc i j) c d (fun i e=>by cases e) ?_ ?_).2⟩
       ·rw[Fe dB]; exact hc
       ·rw[Fe h1]; exact hd
      ·exact (conv (.s i) _ _ (fun j e=>by cases e; exact hnn) rfl rfl).2
     ·rw[List.length_set,h.heap.len,hL]
     ·have bY:=aj hm;rw[hL] at bY;by_cases CE:m=n
      ·rw[hG m bY,if_pos CE] at hm; cases hm
      ·by_cases TG:∃z:Nat × List AV,aN s'.H z.1=some z.2/\N.β z.1=m
       ·obtain⟨⟨b,ds⟩,hb,rfl⟩:=TG;simp only at hb hm CE;have:=hbox b ds hb;rw[blk_iff,hm] at this;cases this;obtain⟨Ux,Cn⟩:=aM.1 (sb (by rw[hb]; rfl:(aN s'.H b).isSome));obtain⟨as,g1,g2,g3⟩:=h.box b Ux Cn;obtain⟨g,sz,arr,e,f1,f2,f3,f4,f5,f6⟩:=h.heap.at g1;obtain⟨ds',q1,q2⟩:=iN.box b Ux Cn;rw[hb] at q1; cases q1;refine⟨g,sz,arr,e,?_,f2,f3,by rw[fN]; omega,f5,fun i c hc=>?_⟩
        ·rw[kf (tt CE)]; exact f1
        ·rw[fy] at hc;simp only[eS] at hc;cases hd:ds[i]? with
         |none=>rw[hd] at hc; cases hc
         |some d=>
           rw[hd] at hc;simp at hc;subst hc;obtain⟨c0,ED⟩:=aS (l:=Ux) (i:=i) (by have:=aj hd; omega);obtain⟨_,a,a1,a2⟩:=g3 i c0 ED;obtain⟨u,u1,u2⟩:=f6 i a a1;exact⟨u,u1,(conv (.c b i) c0 d (fun i e=>by cases e) (by rw[v8 Cn]; exact ED) (by rw[v8 hb]; exact hd)).2 u (a2 _ _ _ u2)⟩
       ·rw[Bb m CE TG] at hm;obtain⟨g,sz,arr,e,f1,f2,f3,f4,f5,f6⟩:=h.heap.live m cs hm;refine⟨g,sz,arr,e,?_,f2,f3,f4,f5,fun i c hc=>?_⟩
        ·rw[kf (tt CE)]; exact f1
        ·obtain⟨u,u1,u2⟩:=f6 i c hc;exact⟨u,u1,u2.mono hr2 tM.QN⟩
     ·by_cases CE:m=n
      ·subst CE;have bY:=aj hm;rw[List.getElem?_set_self (by rw[h.heap.len]; omega)]
      ·rw[kf (tt CE)];by_cases TG:∃z:Nat × List AV,aN s'.H z.1=some z.2/\N.β z.1=m
       ·obtain⟨⟨b,ds⟩,hb,rfl⟩:=TG;simp only at hb hm CE;have:=hbox b ds hb;rw[blk_iff,hm] at this;cases this
       ·rw[Bb m CE TG] at hm;exact h.heap.dead m hm
     ·have sub:∀m g sz:Nat,(φ.set n none)[m]?=some (some (g,sz))->φ[m]?=some (some (g,sz)):=by
       intro m g sz e;rw[aQ] at e;split at e
       ·split at e<;>simp at e
       ·exact e
      exact h.heap.inj m m' g sz o0 (sub _ _ _ e1) (sub _ _ _ e2)
     ·have hq:=own q;rw[e] at hq;by_cases oR:q=p
      ·rw[if_pos oR] at hq; cases hq
      ·rw[if_neg oR] at hq;have ho:=h.own q k' ys hq.symm;cases ZJ:N.ν q with
       |none=>rw[ZJ] at ho; exact ho
       |some m=>
         rw[ZJ] at ho;obtain⟨cs,c1,c2⟩:=ho
         have CE:m≠n:=by
          intro e; subst e;exact oR (h.inj q p m (by rw[<-hq]; rfl) (by rw[hp]; rfl) ZJ kM)
         refine⟨cs,?_,c2⟩;rw[blk_iff,Bb m CE ?_]
         ·exact q6 c1
         ·rintro⟨⟨b,ds⟩,hb,rfl⟩;exact h.bx b q (sb (by rw[hb]; rfl)) (by rw[<-hq]; rfl) ZJ
     ·refine⟨_,hbox b cs e,fN _ _ _ _,fun j c hc=>⟨Yk b cs e j c hc,_,by rw[fy,hc]; simp,Le.refl _⟩⟩
     ·exact h.inj q r m (so e1).1 (so e2).1 e3 e4
     ·exact h.bx b q (sb e1) (so e2).1 e3
     ·exact h.bi b c (sb e1) (sb e2) e3
end Go.Bm

/- Owners that go, values that go to their slots, the end of a region. -/
namespace Go.Bm
open Go.Am

def SB (X:Nat->Prop) (φ:cX) (w:World) (B:Nat->Nat) (base:Nat) (s:St) (t:Nat->Value):Prop:=∃N Ha,dY X φ w N s Ha t/\(∀b,b<base->N.β b=B b)/\base<=s.H.length
section
variable {X:Nat->Prop} {φ:cX} {w:World} {N:Names} {s s':St} {Ha:Heap} {t:Nat->Value} {B:Nat->Nat} {base:Nat}

theorem SB.Bj (h:SB X φ w B base s t) (p:Rt):∃φ',SB X φ' w B base (EI s p) t/\eT φ w φ' w:=by
 obtain⟨N,Ha,h,hb,hl⟩:=h;obtain⟨φ',Ha',h1,h2,_,h3⟩:=h.Bj p;exact⟨φ',⟨N,Ha',h1,hb,by rw[h3.len]; exact hl⟩,h2⟩
theorem SB.dJ:∀(ps:List Rt) {φ:cX} {s:St},SB X φ w B base s t->∃φ',SB X φ' w B base (dJ ps s) t/\eT φ w φ' w
 |[],φ,s,h=>⟨φ,h,.refl _ _⟩
 |p::r,φ,s,h=>by
   obtain⟨nY,h1,a1⟩:=h.Bj p;obtain⟨kR,h2,a2⟩:=SB.dJ r h1;exact⟨kR,h2,a1.trans a2⟩
theorem SB.rel (h:SB X φ w B base s t) (p:Rt):∃φ',SB X φ' w B base (rel s p) t/\eT φ w φ' w:=by
 unfold Go.Bm.rel;split
 ·exact⟨φ,h,.refl _ _⟩
 ·rename_i k xs hp;split
  ·obtain⟨N,Ha,h,hb,hl⟩:=h;exact⟨φ,⟨N,Ha,(h.drop hp).1,hb,by rw[(h.drop hp).2.2.len]; exact hl⟩,.refl _ _⟩
  ·rename_i q hq;split
   ·rename_i k' r len u4;split
    ·rename_i hr;subst hr;obtain⟨N,Ha,h,hb,hl⟩:=h;obtain⟨N',e,h',_,h3⟩:=h.give hp u4;exact⟨φ,⟨N',Ha,h',fun b bY=>by rw[e]; exact hb b bY,by rw[h3.len]; exact hl⟩,.refl _ _⟩
    ·exact h.Bj p
   ·exact h.Bj p
theorem SB.FM (i:Nat):∀(cs:List AV) (j:Nat) {φ:cX} {s:St},SB X φ w B base s t->∃φ',SB X φ' w B base (FM i j cs s) t/\eT φ w φ' w
 |[],j,φ,s,h=>⟨φ,h,.refl _ _⟩
 |x::r,j,φ,s,h=>by
   have skip:∃φ',SB X φ' w B base (Go.Bm.FM i (j+1) r s) t/\eT φ w φ' w:=SB.FM i r (j+1) h
   cases x<;>first
    |exact skip
    | (obtain ⟨nY, h1, a1⟩ := h.rel (.sc i j)
       obtain⟨kR,h2,a2⟩:=SB.FM i r (j+1) h1;exact⟨kR,h2,a1.trans a2⟩)
theorem SB.Ac (h:SB X φ w B base s t) (i:Nat):∃φ',SB X φ' w B base (Ac s i) t/\eT φ w φ' w:=by
 unfold Go.Bm.Ac;split
 ·exact h.rel _
 ·exact SB.FM i _ 0 h
 ·exact⟨φ,h,.refl _ _⟩
theorem SB.nS (keep:List Nat):∀(e:Env) {φ:cX} {s:St},SB X φ w B base s t->∃φ',SB X φ' w B base (nS keep e s) t/\eT φ w φ' w
 |[],φ,s,h=>⟨φ,h,.refl _ _⟩
 |(i,v)::r,φ,s,h=>by
   simp only[Go.Bm.nS];split
   ·exact SB.nS keep r h
   ·obtain⟨nY,h1,a1⟩:=h.Ac i;obtain⟨kR,h2,a2⟩:=SB.nS keep r h1;exact⟨kR,h2,a1.trans a2⟩
theorem SB.ye (b:Nat):∀(n j:Nat) {φ:cX} {s:St},SB X φ w B base s t->∃φ',SB X φ' w B base (ye b j n s) t/\eT φ w φ' w
 |0,j,φ,s,h=>⟨φ,h,.refl _ _⟩
 |n+1,j,φ,s,h=>by
   simp only[Go.Bm.ye];split
   ·obtain⟨nY,h1,a1⟩:=h.rel (.c b j);obtain⟨kR,h2,a2⟩:=SB.ye b n (j+1) h1;exact⟨kR,h2,a1.trans a2⟩
   ·exact SB.ye b n (j+1) h

theorem aee (he:∀i,get s'.env i=get s.env i) (hH:s'.H=s.H):at_ s'=at_ s:=by
 funext p;cases p<;>simp only[at_,he,hH]
theorem GL (he:∀i,get s'.env i=get s.env i) (hH:s'.H=s.H):aq s'=aq s:=by
 funext p;unfold aq;rw[aee he hH]
theorem dY.ext (h:dY X φ w N s Ha t) (he:∀i,get s'.env i=get s.env i) (hH:s'.H=s.H):dY X φ w N s' Ha t:=by
 have ho:=GL he hH;exact⟨fun i=>by rw[he]; exact h.env i,fun i=>by rw[he,ho,hH]; exact h.Cx i,h.heap,by rw[ho]; exact h.own,by rw[ho,hH]; exact h.box,by rw[ho]; exact h.inj,by rw[ho,hH]; exact h.bx,by rw[hH]; exact h.bi⟩
theorem dK {i:Nat} (h:bH (get s.env i)=false):aq s (.s i)=none/\∀ j,aq s (.sc i j)=none:=by
 have hl:∀(cs:List AV),bF cs=false->∀(j:Nat) (k:Nat) (xs:List AV),cs[j]?≠some (.own k xs):=by
  intro cs
  induction cs with
  |nil=>intro _ j k xs e; simp at e
  |cons x r ih=>
    intro h j k xs e;cases j with
    |zero=>simp at e; subst e; simp[bF] at h
    |succ j=>
      simp at e;refine ih ?_ j k xs e;cases x<;>simp[bF] at h<;>exact h
 refine⟨?_,fun j=>?_⟩
 ·cases e:aq s (.s i) with
  |none=>rfl
  |some y=>
    have e':=bR.1 (show aq s (.s i)=some (y.1,y.2) from e);simp only[at_,af] at e';rw[e'] at h;simp[bH] at h
 ·cases e:aq s (.sc i j) with
  |none=>rfl
  |some y=>
    have e':=bR.1 (show aq s (.sc i j)=some (y.1,y.2) from e);simp only[at_] at e';split at e'
    ·rename_i cs dB;rw[dB] at h;simp only[bH] at h;exact absurd e' (hl cs h j _ _)
    ·cases e'
theorem dY.keep (h:dY X φ w N s Ha t) (he:∀i,get s'.env i=get s.env i\/(get s'.env i=.any/\bH (get s.env i)=false)) (hH:s'.H=s.H):dY X φ w N s' Ha t:=by
 have ho:aq s'=aq s:=by
  funext p;cases p with
  |s i=>
    rcases he i with e|⟨e1,e2⟩
    ·unfold aq; simp only[at_,e]
    ·rw[(dK e2).1]; unfold aq; simp only[at_,e1]
  |sc i j=>
    rcases he i with e|⟨e1,e2⟩
    ·unfold aq; simp only[at_,e]
    ·rw[(dK e2).2 j]; unfold aq; simp only[at_,e1]
  |c b j=>unfold aq; simp only[at_,hH]
 refine⟨fun i=>?_,fun i=>?_,h.heap,by rw[ho]; exact h.own,by rw[ho,hH]; exact h.box,by rw[ho]; exact h.inj,by rw[ho,hH]; exact h.bx,by rw[hH]; exact h.bi⟩
 ·rcases he i with e|⟨e1,e2⟩
  ·rw[e]; exact h.env i
  ·rw[e1]; exact .any _ _
 ·rcases he i with e|⟨e1,e2⟩
  ·rw[e,ho,hH]; exact h.Cx i
  ·rw[e1]; trivial
mutual
theorem Il {o o':Rt->Option (Nat × List AV)} {n:Nat} (ho:∀p,(∀j,p≠.c n j)->o' p=o p):∀x,ct o (n+1) x->rF n x=true->ct o' n x
 |.du k p off len,h,hp=>by
   simp only[ct] at h ⊢;rw[ho p]
   ·exact h
   ·rintro j rfl; simp[rF] at hp
 |.eR k p i off,h,hp=>by
   simp only[ct] at h ⊢;rw[ho p]
   ·exact h
   ·rintro j rfl; simp[rF] at hp
 |.ptr b off,h,hp=>by simp only[ct] at h ⊢; simp[rF] at hp; omega
 |.agg cs,h,hp=>by simp only[ct,rF] at h hp ⊢; exact vA ho cs h hp
 |.dA cs,h,hp=>by simp only[ct,rF] at h hp ⊢; exact vA ho cs h hp
 |.func f a b,h,hp=>by simp only[ct,rF,ae] at h hp ⊢; exact⟨vA ho a h.1 hp.1,vA ho b h.2.1 hp.2,h.2.2⟩
 |.any,_,_=>trivial
 |.undef,_,_=>trivial
 |.fg,_,_=>trivial
 |.fj,_,_=>trivial
 |.di,_,_=>trivial
 |.int _ _,_,_=>trivial
 |.bool _,_,_=>trivial
 |.str _,_,_=>trivial
 |.list _ _,_,_=>trivial
 |.de _,_,_=>trivial
 |.own _ _,_,_=>trivial
 |.sl _ b _ _,h,hp=>by simp only[ct] at h ⊢; simp[rF] at hp; omega
theorem vA {o o':Rt->Option (Nat × List AV)} {n:Nat} (ho:∀p,(∀j,p≠.c n j)->o' p=o p):∀cs,jX o (n+1) cs->jG n cs=true->jX o' n cs
 |[],_,_=>trivial
 |x::r,h,hp=>by simp only[jX,jG,ae] at h hp ⊢; exact⟨Il ho x h.1 hp.1,vA ho r h.2 hp.2⟩
end
theorem D5 {n:Nat}:∀{e:Env},AK n e=true->∀i,rF n (get e i)=true
 |[],_,i=>rfl
 |(j,v)::r,h,i=>by
   simp only[AK,ae] at h;simp only[Am.get];split
   ·exact h.1
   ·exact D5 h.2 i
theorem yt {n:Nat}:∀{H:Heap},vC n H=true->∀b cs,aN H b=some cs->jG n cs=true
 |[],_,b,cs,hb=>by simp[aN] at hb
 |none::r,h,b,cs,hb=>by
   simp only[vC] at h;cases b with
   |zero=>simp[aN] at hb
   |succ b=>exact yt h b cs (by simpa[aN] using hb)
 |some ds::r,h,b,cs,hb=>by
   simp only[vC,ae] at h;cases b with
   |zero=>simp[aN] at hb; subst hb; exact h.1
   |succ b=>exact yt h.2 b cs (by simpa[aN] using hb)
theorem D4 {n:Nat}:∀{cs:List AV},jG n cs=true->∀(j:Nat) (c:AV),cs[j]?=some c->rF n c=true
 |[],_,j,c,h=>by simp at h
 |x::r,hp,j,c,h=>by
   simp only[jG,ae] at hp;cases j with
   |zero=>simp at h; subst h; exact hp.1
   |succ j=>exact D4 hp.2 j c (by simpa using h)
theorem q5 {H:Heap} {n b:Nat}:aN (H.take n) b=if b<n then aN H b else none:=by
 unfold aN;rw[bC];by_cases h:b<n<;>simp[h]
theorem dY.aep {env:Env} {H:Heap} {n:Nat} (h:dY X φ w N ⟨env,H⟩ Ha t) (hl:H.length=n+1) (he:AK n env=true) (hH:vC n (H.take n)=true):dY X φ w N ⟨env,H.take n⟩ Ha t:=by
 have ho:∀p,(∀j,p≠.c n j)->aq ⟨env,H.take n⟩ p=aq ⟨env,H⟩ p:=by
  intro p hp;cases p with
  |s i=>rfl
  |sc i j=>rfl
  |c b j=>
    unfold aq;simp only[at_,q5];by_cases hb:b<n
    ·rw[if_pos hb]
    ·rw[if_neg hb]
     have:aN H b=none:=by
      cases e:aN H b with
      |none=>rfl
      |some cs=>
        have:=dp e;simp only[hl] at this;exact absurd (by rw[show b=n by omega]) (hp j)
     rw[this]
 have hs:∀{p},(aq ⟨env,H.take n⟩ p).isSome->(aq ⟨env,H⟩ p).isSome:=by
  intro p hp;by_cases hc:∀j,p≠.c n j
  ·rwa [ho p hc] at hp
  ·exfalso;apply hc;rintro j rfl;unfold aq at hp;simp[at_,q5] at hp
 have hlen:(H.take n).length=n:=by simp; omega
 have zW:∀{b},(aN (H.take n) b).isSome->(aN H b).isSome:=by
  intro b hb;rw[q5] at hb;split at hb
  ·exact hb
  ·cases hb
 refine⟨h.env,fun i=>?_,h.heap,fun p k xs e=>?_,fun b cs e=>?_,fun p q m e1 e2=>h.inj p q m (hs e1) (hs e2),fun b p e1 e2=>h.bx b p (zW e1) (hs e2),fun b c e1 e2=>h.bi b c (zW e1) (zW e2)⟩
 ·have:=h.Cx i;simp only[hl] at this;simp only[hlen];exact Il ho _ this (D5 he i)
 ·refine h.own p k xs ?_;by_cases hc:∀j,p≠.c n j
  ·rwa [ho p hc] at e
  ·exfalso;apply hc;rintro j rfl;unfold aq at e;simp[at_,q5] at e
 ·simp only[q5] at e;split at e
  ·obtain⟨as,g1,g2,g3⟩:=h.box b cs e;refine⟨as,g1,g2,fun j c hc=>?_⟩;obtain⟨k1,k2⟩:=g3 j c hc;refine⟨?_,k2⟩;simp only[hl] at k1;simp only[hlen];refine Il ho _ k1 (D4 (yt hH b cs ?_) j c hc);rw[q5,if_pos ‹_›];exact e
  ·cases e
theorem dY.trim {env:Env} {base0:Nat}:∀(n:Nat) {H:Heap},dY X φ w N ⟨env,H⟩ Ha t->dY X φ w N ⟨env,trim base0 env n H⟩ Ha t
 |0,H,h=>h
 |n+1,H,h=>by
   simp only[Go.Bm.trim];split
   ·rename_i hc;exact dY.trim n (h.aep hc.2.1 hc.2.2.1 hc.2.2.2)
   ·exact h
end
end Go.Bm

/- From the hand to a slot. -/
namespace Go.Bm
open Go.Am

mutual
theorem UD {N N':Names} {m:Rt->Rt} {g:AV->AV} (dX:N'.β=N.β) (hg:∀k p a l,g (.du k p a l)=.du k (m p) a l/\g (.eR k p a l)=.eR k (m p) a l) :
  ∀ x,(∀p∈aI x,N'.ν (m p)=N.ν p)->cu N' (cC g x)=cu N x
 |.du k p a l,h=>by simp only[cC,(hg k p a l).1,cu]; rw[h p (by simp[aI])]
 |.eR k p a l,h=>by simp only[cC,(hg k p a l).2,cu]; rw[h p (by simp[aI])]
 |.ptr b off,_=>by simp only[cC,cu,dX]
 |.agg cs,h=>by simp only[cC,cu]; rw[CX dX hg cs (fun p hp=>h p (by simpa[aI] using hp))]
 |.dA cs,h=>by simp only[cC,cu]; rw[CX dX hg cs (fun p hp=>h p (by simpa[aI] using hp))]
 |.func f a b,h=>by
   simp only[cC,cu];rw[CX dX hg a (fun p hp=>h p (by simp only[aI,aC]; exact .inl hp)),CX dX hg b (fun p hp=>h p (by simp only[aI,aC]; exact .inr hp))]
 |.any,_=>rfl
 |.undef,_=>rfl
 |.fg,_=>rfl
 |.fj,_=>rfl
 |.di,_=>rfl
 |.int _ _,_=>rfl
 |.bool _,_=>rfl
 |.str _,_=>rfl
 |.list _ _,_=>rfl
 |.de _,_=>rfl
 |.own _ _,_=>rfl
 |.sl _ b _ _,_=>by simp only[cC,cu,dX]
theorem CX {N N':Names} {m:Rt->Rt} {g:AV->AV} (dX:N'.β=N.β) (hg:∀k p a l,g (.du k p a l)=.du k (m p) a l/\g (.eR k p a l)=.eR k (m p) a l) :
  ∀ cs,(∀p∈cU cs,N'.ν (m p)=N.ν p)->kj N' (cK g cs)=kj N cs
 |[],_=>rfl
 |x::r,h=>by
   simp only[cK,kj];rw[UD dX hg x (fun p hp=>h p (by simp only[cU,aC]; exact .inl hp)),CX dX hg r (fun p hp=>h p (by simp only[cU,aC]; exact .inr hp))]
end
mutual
theorem Ky {o o':Rt->Option (Nat × List AV)} {nb:Nat} {m:Rt->Rt} {g:AV->AV} (hg:∀k p a l,g (.du k p a l)=.du k (m p) a l/\g (.eR k p a l)=.eR k (m p) a l) :
  ∀ x,(∀p∈aI x,o' (m p)=o p)->ct o nb x->ct o' nb (cC g x)
 |.du k p a l,h,hk=>by simp only[cC,(hg k p a l).1,ct] at hk ⊢; rw[h p (by simp[aI])]; exact hk
 |.eR k p a l,h,hk=>by simp only[cC,(hg k p a l).2,ct] at hk ⊢; rw[h p (by simp[aI])]; exact hk
 |.ptr b off,_,hk=>hk
 |.agg cs,h,hk=>by simp only[cC,ct] at hk ⊢; exact DU hg cs (fun p hp=>h p (by simpa[aI] using hp)) hk
 |.dA cs,h,hk=>by simp only[cC,ct] at hk ⊢; exact DU hg cs (fun p hp=>h p (by simpa[aI] using hp)) hk
 |.func f a b,h,hk=>by
   simp only[cC,ct] at hk ⊢;exact⟨DU hg a (fun p hp=>h p (by simp only[aI,aC]; exact .inl hp)) hk.1,DU hg b (fun p hp=>h p (by simp only[aI,aC]; exact .inr hp)) hk.2.1,fun hy=>by obtain⟨rfl,c,rfl⟩:=hk.2.2 hy; exact⟨rfl,c,rfl⟩⟩
 |.any,_,_=>trivial
 |.undef,_,_=>trivial
 |.fg,_,_=>trivial
 |.fj,_,_=>trivial
 |.di,_,_=>trivial
 |.int _ _,_,_=>trivial
 |.bool _,_,_=>trivial
 |.str _,_,_=>trivial
 |.list _ _,_,_=>trivial
 |.de _,_,_=>trivial
 |.own _ _,_,_=>trivial
 |.sl _ _ _ _,_,h=>h
theorem DU {o o':Rt->Option (Nat × List AV)} {nb:Nat} {m:Rt->Rt} {g:AV->AV} (hg:∀k p a l,g (.du k p a l)=.du k (m p) a l/\g (.eR k p a l)=.eR k (m p) a l) :
  ∀ cs,(∀p∈cU cs,o' (m p)=o p)->jX o nb cs->jX o' nb (cK g cs)
 |[],_,_=>trivial
 |x::r,h,hk=>by
   simp only[cK,jX] at hk ⊢;exact⟨Ky hg x (fun p hp=>h p (by simp only[cU,aC]; exact .inl hp)) hk.1,DU hg r (fun p hp=>h p (by simp only[cU,aC]; exact .inr hp)) hk.2⟩
end
theorem kC {cs:List AV} {j:Nat} {c:AV} (h:cs[j]?=some c) {p:Rt} (hp:p∈aI c):p∈cU cs:=by
 induction cs generalizing j with
 |nil=>simp at h
 |cons x r ih=>
   simp only[cU,aC];cases j with
   |zero=>simp at h; subst h; exact .inl hp
   |succ j=>exact .inr (ih (by simpa using h))
theorem xZ {N N':Names} {m:Rt->Rt} {g:AV->AV} (dX:N'.β=N.β) (hg:∀k p a l,g (.du k p a l)=.du k (m p) a l/\g (.eR k p a l)=.eR k (m p) a l) {r r':Rt} {x:AV} (hr:∀k xs,x=.own k xs->N'.ν r'=N.ν r) (hx:∀p∈aI x,N'.ν (m p)=N.ν p) :
  iJ N' r' (cC g x)=iJ N r x:=by
 have hL:jM g:=fun k p a l=>by rw[(hg k p a l).1,(hg k p a l).2]; exact⟨⟨(fun cs e=>by cases e),(fun k xs e=>by cases e)⟩,⟨(fun cs e=>by cases e),(fun k xs e=>by cases e)⟩⟩
 by_cases ho:∃k xs,x=.own k xs
 ·obtain⟨k,xs,rfl⟩:=ho;simp only[cC,iJ,qI,hr k xs rfl]
 ·obtain⟨e1,e2⟩:=HU (N:=N) (N':=N') hL (r:=r) (x:=x) (fun k xs e=>ho ⟨k,xs,e⟩);obtain⟨_,e3⟩:=HU (N:=N) (N':=N') hL (r:=r') (x:=x) (fun k xs e=>ho ⟨k,xs,e⟩);rw[e1,e3,UD dX hg x hx]
theorem HT {N N':Names} {m:Rt->Rt} {g:AV->AV} (dX:N'.β=N.β) (hg:∀k p a l,g (.du k p a l)=.du k (m p) a l/\g (.eR k p a l)=.eR k (m p) a l) {i i':Nat} {x:AV} (h1:N'.ν (.s i')=N.ν (.s i)) (h2:∀j,N'.ν (.sc i' j)=N.ν (.sc i j)) (hx:∀p∈aI x,N'.ν (m p)=N.ν p) :
  jW N' i' (cC g x)=jW N i x:=by
 have hL:jM g:=fun k p a l=>by rw[(hg k p a l).1,(hg k p a l).2]; exact⟨⟨(fun cs e=>by cases e),(fun k xs e=>by cases e)⟩,⟨(fun cs e=>by cases e),(fun k xs e=>by cases e)⟩⟩
 by_cases ha:∃cs,x=.agg cs
 ·obtain⟨cs,rfl⟩:=ha;simp only[cC,jW];congr 1;apply dq;intro j;rw[fy,fy,dV];simp only[eS];cases hc:cs[j]? with
  |none=>rfl
  |some c=>
    simp only[bV];rw[xZ dX hg (r:=.sc i j) (fun _ _ _=>h2 j) (fun p hp=>hx p (by simp only[aI]; exact kC hc hp))]
 ·have hn:ja x:=fun cs e=>ha ⟨cs,e⟩;have MF:ja (cC g x):=lz hL hn
  have e1:jW N' i' (cC g x)=iJ N' (.s i') (cC g x):=by
   generalize cC g x=y at MF;cases y<;>first|rfl|exact absurd rfl (MF _)
  have e2:jW N i x=iJ N (.s i) x:=by cases x<;>first|rfl|exact absurd rfl (hn _)
  rw[e1,e2];exact xZ dX hg (fun _ _ _=>h1) hx
section
variable {X:Nat->Prop} {φ:cX} {w:World} {N:Names} {s s':St} {Ha:Heap} {t t':Nat->Value} {B:Nat->Nat} {base:Nat}
theorem zK (i d:Nat):∀k p a l,Tt i d (.du k p a l)=.du k (iZ i d p) a l/\Tt i d (.eR k p a l)=.eR k (iZ i d p) a l:=fun _ _ _ _=>⟨rfl,rfl⟩
theorem AM {i d:Nat} {p:Rt} (h:bq d p=false):iZ d i (iZ i d p)=p:=by
 cases p with
 |s j=>
   simp only[bq,decide_eq_false_iff_not] at h;simp only[iZ];by_cases e:j=i
   ·subst e; simp[iZ]
   ·simp[e,iZ,h]
 |sc j l=>
   simp only[bq,decide_eq_false_iff_not] at h;simp only[iZ];by_cases e:j=i
   ·subst e; simp[iZ]
   ·simp[e,iZ,h]
 |c b j=>rfl
theorem KF {i d:Nat} {q:Rt} (h:bq i q=false):iZ i d (iZ d i q)=q:=AM h
theorem dY.hand {i d:Nat} (h:dY X φ w N s Ha t) (hid:i≠d) (hC:∀r x,at_ s r=some x->∀p∈aI x,bq d p=false)
  (he:∀j,get s'.env j=if j=d then cC (Tt i d) (get s.env i) else if j=i then .any else cC (Tt i d) (get s.env j)) (hH:s'.H=fH (Tt i d) s.H) (ht:∀j,j≠i->t' j=if j=d then t i else t j) :
  ∃ N',N'.β=N.β/\dY X φ w N' s' Ha t':=by
 have hg:=zK i d;have hL:=adz i d
 have atq:∀q,bq i q=false->at_ s' q=(at_ s (iZ d i q)).map (cC (Tt i d)):=by
  intro q hq;rw[<-iS hL];cases q with
  |s j=>
    simp only[bq,decide_eq_false_iff_not] at hq;simp only[at_,he,iZ,bX];by_cases e:j=d
    ·simp[e,dc,at_]
    ·simp[e,hq,dc,at_]
  |sc j l=>
    simp only[bq,decide_eq_false_iff_not] at hq;simp only[at_,he,iZ,bX];by_cases e:j=d
    ·simp[e,dc,at_]
    ·simp[e,hq,dc,at_]
  |c b j=>simp only[at_,hH,iZ,bX]
 have atn:∀q,bq i q=true->aq s' q=none:=by
  intro q hq;cases q with
  |s j=>simp only[bq,decide_eq_true_eq] at hq; subst hq; unfold aq; simp[at_,he,hid]
  |sc j l=>simp only[bq,decide_eq_true_eq] at hq; subst hq; unfold aq; simp[at_,he,hid]
  |c b j=>simp[bq] at hq
 have own:∀q,bq i q=false->aq s' q=aq s (iZ d i q):=by
  intro q hq;rw[<-gK hL s (iZ d i q)];exact Ij (by rw[atq q hq,iS hL])
 have Tn:∀p,bq d p=false->aq s' (iZ i d p)=aq s p:=by
  intro p hp
  have hi:bq i (iZ i d p)=false:=by
   cases p with
   |s j=>simp only[iZ]; split<;>simp_all [bq]; exact fun e=>hid e.symm
   |sc j l=>simp only[iZ]; split<;>simp_all [bq]; exact fun e=>hid e.symm
   |c b j=>rfl
  rw[own _ hi,AM hp]
 have hlen:s'.H.length=s.H.length:=by rw[hH,fe]
 obtain⟨N',dX,hN⟩:∃N':Names,N'.β=N.β/\∀ q,N'.ν q=N.ν (iZ d i q):=⟨⟨N.β,fun q=>N.ν (iZ d i q)⟩,rfl,fun _=>rfl⟩;have kM:∀p,bq d p=false->N'.ν (iZ i d p)=N.ν p:=fun p hp=>by rw[hN,AM hp]
 refine⟨N',dX,⟨fun j=>?_,fun j=>?_,h.heap,fun p k xs e=>?_,fun b cs e=>?_,fun p q n e1 e2 e3 e4=>?_,fun b p e1 e2 e3=>?_,fun b c e1 e2 e3=>?_⟩⟩
 ·rw[he];by_cases TI:j=d
  ·subst TI;rw[if_pos rfl,ht j (tt hid),if_pos rfl];rw[HT (N:=N) (i:=i) dX hg (by simp[hN,iZ]) (fun l=>by simp[hN,iZ]) (fun p hp=>kM p (hC (.s i) _ rfl p hp))];exact h.env i
  ·rw[if_neg TI];by_cases FY:j=i
   ·rw[if_pos FY]; exact .any _ _
   ·rw[if_neg FY,ht j FY,if_neg TI];rw[HT (N:=N) (i:=j) dX hg (by simp[hN,iZ,TI]) (fun l=>by simp[hN,iZ,TI]) (fun p hp=>kM p (hC (.s j) _ rfl p hp))];exact h.env j
 ·rw[he,hlen];by_cases TI:j=d
  ·rw[if_pos TI];exact Ky hg _ (fun p hp=>Tn p (hC (.s i) _ rfl p hp)) (h.Cx i)
  ·rw[if_neg TI];by_cases FY:j=i
   ·rw[if_pos FY]; trivial
   ·rw[if_neg FY];exact Ky hg _ (fun p hp=>Tn p (hC (.s j) _ rfl p hp)) (h.Cx j)
 ·cases hq:bq i p with
  |true=>rw[atn p hq] at e; cases e
  |false=>rw[own p hq] at e; rw[hN]; exact h.own _ k xs e
 ·rw[hH,eZ] at e;cases hb:aN s.H b with
  |none=>rw[hb] at e; cases e
  |some ds=>
    rw[hb] at e;simp at e;subst e;obtain⟨as,g1,g2,g3⟩:=h.box b ds hb;refine⟨as,by rw[dX]; exact g1,by rw[cn]; exact g2,fun j c hc=>?_⟩;rw[dV] at hc;cases hd:ds[j]? with
    |none=>rw[hd] at hc; cases hc
    |some c0=>
      rw[hd] at hc;simp at hc;subst hc;have hcc:=fun p hp=>hC (.c b j) c0 (by rw[v8 hb]; exact hd) p hp;obtain⟨k1,a,k2,k3⟩:=g3 j c0 hd;refine⟨by rw[hlen]; exact Ky hg _ (fun p hp=>Tn p (hcc p hp)) k1,a,k2,?_⟩;rw[xZ (N:=N) (r:=.c b j) dX hg (fun _ _ _=>by rw[hN]; rfl) (fun p hp=>kM p (hcc p hp))];exact k3
 ·have hp:bq i p=false:=by
   cases hq:bq i p with
   |true=>rw[atn p hq] at e1; cases e1
   |false=>rfl
  have hq:bq i q=false:=by
   cases hq:bq i q with
   |true=>rw[atn q hq] at e2; cases e2
   |false=>rfl
  rw[own p hp] at e1;rw[own q hq] at e2;rw[hN] at e3 e4;have:=h.inj _ _ n e1 e2 e3 e4;rw[<-KF (d:=d) hp,this,KF hq]
 ·have hp:bq i p=false:=by
   cases hq:bq i p with
   |true=>rw[atn p hq] at e2; cases e2
   |false=>rfl
  rw[own p hp] at e2;rw[hN,dX] at e3;refine h.bx b _ ?_ e2 e3;rw[hH,eZ] at e1;cases hb:aN s.H b with
  |none=>rw[hb] at e1; cases e1
  |some _=>rfl
 ·have sb:∀{b},(aN s'.H b).isSome->(aN s.H b).isSome:=by
   intro b hb;rw[hH,eZ] at hb;cases e:aN s.H b with
   |none=>rw[e] at hb; cases hb
   |some _=>rfl
  rw[dX] at e3;exact h.bi b c (sb e1) (sb e2) e3
end
end Go.Bm

/- A value goes to its slot. -/
namespace Go.Bm
open Go.Am
mutual
theorem AH {o:Rt->Option (Nat × List AV)} {nb:Nat}:∀x,ct o nb x->∀p∈aI x,(o p).isSome
 |.du k q a l,h,p,hp=>by simp only[aI,cD] at hp; subst hp; simp only[ct] at h; obtain⟨xs,e,_⟩:=h; rw[e]; rfl
 |.eR k q a l,h,p,hp=>by simp only[aI,cD] at hp; subst hp; simp only[ct] at h; obtain⟨xs,e,_⟩:=h; rw[e]; rfl
 |.agg cs,h,p,hp=>by simp only[ct,aI] at h hp; exact zz cs h p hp
 |.dA cs,h,p,hp=>by simp only[ct,aI] at h hp; exact zz cs h p hp
 |.func f a b,h,p,hp=>by
   simp only[ct,aI,aC] at h hp;rcases hp with hp|hp
   ·exact zz a h.1 p hp
   ·exact zz b h.2.1 p hp
 |.any,_,p,hp=>by simp[aI] at hp
 |.undef,_,p,hp=>by simp[aI] at hp
 |.fg,_,p,hp=>by simp[aI] at hp
 |.fj,_,p,hp=>by simp[aI] at hp
 |.di,_,p,hp=>by simp[aI] at hp
 |.int _ _,_,p,hp=>by simp[aI] at hp
 |.bool _,_,p,hp=>by simp[aI] at hp
 |.str _,_,p,hp=>by simp[aI] at hp
 |.list _ _,_,p,hp=>by simp[aI] at hp
 |.de _,_,p,hp=>by simp[aI] at hp
 |.own _ _,_,p,hp=>by simp[aI] at hp
 |.ptr _ _,_,p,hp=>by simp[aI] at hp
 |.sl _ _ _ _,_,p,hp=>by simp[aI] at hp
theorem zz {o:Rt->Option (Nat × List AV)} {nb:Nat}:∀cs,jX o nb cs->∀p∈cU cs,(o p).isSome
 |[],_,p,hp=>by simp[cU] at hp
 |x::r,h,p,hp=>by
   simp only[jX,cU,aC] at h hp;rcases hp with hp|hp
   ·exact AH x h.1 p hp
   ·exact zz r h.2 p hp
end
mutual
theorem rG {g:AV->AV} {m:Rt->Rt} (hg:∀k p a l,g (.du k p a l)=.du k (m p) a l/\g (.eR k p a l)=.eR k (m p) a l):∀x,(∀p∈aI x,m p=p)->cC g x=x
 |.du k p a l,h=>by simp only[cC,(hg k p a l).1]; rw[h p (by simp[aI])]
 |.eR k p a l,h=>by simp only[cC,(hg k p a l).2]; rw[h p (by simp[aI])]
 |.agg cs,h=>by simp only[cC]; rw[qM hg cs (fun p hp=>h p (by simpa[aI] using hp))]
 |.dA cs,h=>by simp only[cC]; rw[qM hg cs (fun p hp=>h p (by simpa[aI] using hp))]
 |.func f a b,h=>by
   simp only[cC];rw[qM hg a (fun p hp=>h p (by simp only[aI,aC]; exact .inl hp)),qM hg b (fun p hp=>h p (by simp only[aI,aC]; exact .inr hp))]
 |.any,_=>rfl
 |.undef,_=>rfl
 |.fg,_=>rfl
 |.fj,_=>rfl
 |.di,_=>rfl
 |.int _ _,_=>rfl
 |.bool _,_=>rfl
 |.str _,_=>rfl
 |.list _ _,_=>rfl
 |.de _,_=>rfl
 |.own _ _,_=>rfl
 |.ptr _ _,_=>rfl
 |.sl _ _ _ _,_=>rfl
theorem qM {g:AV->AV} {m:Rt->Rt} (hg:∀k p a l,g (.du k p a l)=.du k (m p) a l/\g (.eR k p a l)=.eR k (m p) a l):∀cs,(∀p∈cU cs,m p=p)->cK g cs=cs
 |[],_=>rfl
 |x::r,h=>by
   simp only[cK];rw[rG hg x (fun p hp=>h p (by simp only[cU,aC]; exact .inl hp)),qM hg r (fun p hp=>h p (by simp only[cU,aC]; exact .inr hp))]
end
theorem CA {g:AV->AV} {m:Rt->Rt} (hg:∀k p a l,g (.du k p a l)=.du k (m p) a l/\g (.eR k p a l)=.eR k (m p) a l):∀H:Heap,(∀b cs,aN H b=some cs->∀p∈cU cs,m p=p)->fH g H=H
 |[],_=>rfl
 |none::r,h=>by simp only[fH]; rw[CA hg r (fun b cs hb=>h (b+1) cs (by simpa[aN] using hb))]
 |some cs::r,h=>by simp only[fH]; rw[CA hg r (fun b ds hb=>h (b+1) ds (by simpa[aN] using hb)),qM hg cs (h 0 cs rfl)]
theorem jK {f:Rt->Bool}:∀{l:List Rt},wc f l=false->∀p∈l,f p=false
 |[],_,p,hp=>by simp at hp
 |q::r,h,p,hp=>by
   simp only[wc,dZ] at h;rcases aK.1 hp with e|e
   ·subst e; exact h.1
   ·exact jK h.2 p e
theorem q7 {f:Rt->Bool}:∀{e:Env},Fi f e=false->∀i,∀p∈aI (get e i),f p=false
 |[],_,i,p,hp=>by simp[Am.get,aI] at hp
 |(j,v)::r,h,i,p,hp=>by
   simp only[Fi,dZ] at h;simp only[Am.get] at hp;split at hp
   ·exact jK h.1 p hp
   ·exact q7 h.2 i p hp
theorem tV {f:Rt->Bool}:∀{H:Heap},Fg f H=false->∀b cs,aN H b=some cs->∀p∈cU cs,f p=false
 |[],_,b,cs,hb,p,hp=>by simp[aN] at hb
 |none::r,h,b,cs,hb,p,hp=>by
   simp only[Fg] at h;cases b with
   |zero=>simp[aN] at hb
   |succ b=>exact tV h b cs (by simpa[aN] using hb) p hp
 |some ds::r,h,b,cs,hb,p,hp=>by
   simp only[Fg,dZ] at h;cases b with
   |zero=>simp[aN] at hb; subst hb; exact jK h.1 p hp
   |succ b=>exact tV h.2 b cs (by simpa[aN] using hb) p hp
theorem Jb {cs:List AV} {p:Rt} (hp:p∈cU cs):∃(j:Nat) (c:AV),cs[j]?=some c/\p∈aI c:=by
 induction cs with
 |nil=>simp[cU] at hp
 |cons x r ih=>
   simp only[cU,aC] at hp;rcases hp with hp|hp
   ·exact⟨0,x,rfl,hp⟩
   ·obtain⟨j,c,h1,h2⟩:=ih hp;exact⟨j+1,c,by simpa using h1,h2⟩
theorem G7:∀(e:Env) (l:List Nat),∃i,Am.get e i=.any/\i∉l:=by
 have key:∀e:Env,∃n,∀i,n<=i->Am.get e i=.any:=by
  intro e
  induction e with
  |nil=>exact⟨0,fun i _=>rfl⟩
  |cons p r ih=>
    obtain⟨j,v⟩:=p;obtain⟨n,hn⟩:=ih;refine⟨max n (j+1),fun i hi=>?_⟩;simp only[Am.get];rw[if_neg (by omega)];exact hn i (by omega)
 intro e l;obtain⟨n,hn⟩:=key e
 have:∃m,∀x∈l,x<m:=by
  induction l with
  |nil=>exact⟨0,fun x hx=>by simp at hx⟩
  |cons y r ih=>
    obtain⟨m,hm⟩:=ih;refine⟨max m (y+1),fun x hx=>?_⟩;rcases aK.1 hx with e|e
    ·omega
    ·have:=hm x e; omega
 obtain⟨m,hm⟩:=this;exact⟨max n m,hn _ (by omega),fun h=>by have:=hm _ h; omega⟩
section
variable {X:Nat->Prop} {φ:cX} {w:World} {s s':St} {t t':Nat->Value} {B:Nat->Nat} {base:Nat} {v:AV} {v':Value}
structure dP (X:Nat->Prop) (φ:cX) (w:World) (B:Nat->Nat) (base:Nat) (s:St) (v:AV) (t:Nat->Value) (v':Value):Prop where
 st:SB X φ w B base s t
 ok:ct (aq s) s.H.length v
 put:∀i,get s.env i=.any->SB X φ w B base ⟨put s.env i v,s.H⟩ (fun j=>if j=i then v' else t j)
theorem Je {r:Rt} {x:AV} (h:SB X φ w B base s t) (hx:at_ s r=some x):∀p∈aI x,(aq s p).isSome:=by
 obtain⟨N,Ha,h,_⟩:=h;exact AH x (h.zA hx)
theorem aaM {b:Nat} {cs:List AV} (h:SB X φ w B base s t) (hb:aN s.H b=some cs):∀p∈cU cs,(aq s p).isSome:=by
 intro p hp;obtain⟨j,c,h1,h2⟩:=Jb hp;exact Je h (r:=.c b j) (by rw[v8 hb]; exact h1) p h2
theorem Zm {i d:Nat} {p:Rt} (h:bq i p=false):iZ i d p=p:=by
 cases p with
 |s j=>simp only[bq,decide_eq_false_iff_not] at h; simp[iZ,h]
 |sc j l=>simp only[bq,decide_eq_false_iff_not] at h; simp[iZ,h]
 |c b j=>rfl
theorem tU {i:Nat} {p:Rt} (hi:bH (get s.env i)=false) (hp:(aq s p).isSome):bq i p=false:=by
 obtain⟨h1,h2⟩:=dK hi;cases p with
 |s j=>
   simp only[bq,decide_eq_false_iff_not];rintro rfl;rw[h1] at hp; cases hp
 |sc j l=>
   simp only[bq,decide_eq_false_iff_not];rintro rfl;rw[h2] at hp; cases hp
 |c b j=>rfl
theorem SB.hand {i d:Nat} (h:SB X φ w B base s t) (hid:i≠d) (hC:∀r x,at_ s r=some x->∀p∈aI x,bq d p=false)
  (he:∀j,get s'.env j=if j=d then cC (Tt i d) (get s.env i) else if j=i then .any else cC (Tt i d) (get s.env j)) (hH:s'.H=fH (Tt i d) s.H) (ht:∀j,j≠i->t' j=if j=d then t i else t j):SB X φ w B base s' t':=by
 obtain⟨N,Ha,h,hb,hl⟩:=h;obtain⟨N',e,h'⟩:=h.hand hid hC he hH ht;exact⟨N',Ha,h',fun b bY=>by rw[e]; exact hb b bY,by rw[hH,fe]; exact hl⟩
theorem acK (h:dP X φ w B base s v t v') {d:Nat} (hp:Ti s d v=some s') (hd:d≠eW) (ht:∀j,t' j=if j=d then v' else t j):∃φ',SB X φ' w B base s' t'/\eT φ w φ' w:=by
 unfold Ti at hp;split at hp
 ·split at hp
  case h_2=>cases hp
  rename_i F2;split at hp
  ·cases hp
  rename_i ho;simp at hp;subst hp;obtain⟨nY,h1,a1⟩:=(h.put eW F2).Ac d;refine⟨nY,h1.hand (i:=eW) (d:=d) (tt hd) (fun r x hx p hp=>tU (by simpa using ho) (Je h1 hx p hp)) (fun j=>?_) ?_ (fun j hj=>?_),a1⟩
  ·simp only[IP,bz,bX,dc]
  ·simp only[IP,bX]
  ·rw[ht,if_pos rfl,if_neg hj]
 ·rename_i hs;simp at hp;subst hp;obtain⟨i,hi,hid⟩:=G7 s.env [d];have hid':i≠d:=fun e=>hid (by simp[e]);have hio:bH (get s.env i)=false:=by rw[hi]; rfl
  have FE:=h.put i hi;have KE:∀{p},(aq s p).isSome->iZ i d p=p:=fun hp=>Zm (tU hio hp);refine⟨φ,FE.hand (i:=i) (d:=d) hid' (fun r x hx p hp=>?_) (fun j=>?_) ?_ (fun j hj=>?_),.refl _ _⟩
  ·simp only[JN,ae,not_and,Bool.not_eq_true] at hs;cases hod:bH (get s.env d) with
   |false=>
     refine tU (s:=⟨put s.env i v,s.H⟩) (i:=d) ?_ (Je FE hx p hp);simp only[bz];rw[if_neg (tt hid')];exact hod
   |true=>
     have hn:=hs hod;simp only[Fj,dZ] at hn;cases r with
     |s j=>
       simp only[at_,bz,af] at hx;subst hx;split at hp
       ·exact jK hn.1 p hp
       ·exact q7 hn.2.1 j p hp
     |sc j l=>
       simp only[at_,bz] at hx;split at hx
       ·rename_i cs dB;split at dB
        ·subst dB;exact jK hn.1 p (by simp only[aI]; exact kC hx hp)
        ·exact q7 hn.2.1 j p (by rw[dB]; simp only[aI]; exact kC hx hp)
       ·cases hx
     |c b l=>
       simp only[at_] at hx;split at hx
       ·rename_i cs dB;exact tV hn.2.2 b cs dB p (kC hx hp)
       ·cases hx
  ·simp only[bz];by_cases TI:j=d
   ·rw[if_pos TI,if_pos TI,if_pos trivial,rG (zK i d) v (fun p hp=>KE (AH v h.ok p hp))]
   ·rw[if_neg TI,if_neg TI];by_cases FY:j=i
    ·rw[if_pos FY,FY]; exact hi
    ·rw[if_neg FY,if_neg FY,rG (zK i d) _ (fun p hp=>KE (Je h.st (r:=.s j) rfl p hp))]
  ·exact (CA (zK i d) s.H (fun b cs hb p hp=>KE (aaM h.st hb p hp))).symm
  ·rw[ht,if_pos rfl,if_neg hj]
theorem YQ (h:dP X φ w B base s v t v') {d:Option Nat} (hp:xM s d v=some s') (hd:d≠some eW) (ht:∀j,t' j=if some j=d then v' else t j):∃φ',SB X φ' w B base s' t'/\eT φ w φ' w:=by
 cases d with
 |none=>
   simp[xM] at hp;subst hp;refine⟨φ,?_,.refl _ _⟩;obtain⟨N,Ha,h1,hb⟩:=h.st;have:t'=t:=by funext j; rw[ht,if_neg (by simp)]
   rw[this];exact⟨N,Ha,h1,hb⟩
 |some d=>exact acK h (by simpa[xM] using hp) (fun e=>hd (by rw[e])) (fun j=>by rw[ht]; simp)
end
end Go.Bm

/- Operations that change nothing, in both machines. -/
namespace Go.Bm
open Go.Am

def yG:AV->Bool
 |.bool _|.int _ _|.di|.fg|.fj|.undef|.str _=>true
 |_=>false
def mW:List AV->Bool
 |[]=>true
 |x::r=>yG x&&mW r
def WE:AV->Bool
 |.agg cs=>mW cs
 |.func f [] []=>!uF f
 |x=>yG x
theorem R5 {v:Value} {x:AV} (h:EY v x=true):yG x=true:=by
 unfold EY at h;split at h<;>first|rfl|cases h
theorem I8:∀{vs:List Value} {xs:List AV},qU vs xs=true->mW xs=true
 |[],[],_=>rfl
 |[],_::_,h=>by simp[qU] at h
 |_::_,[],h=>by simp[qU] at h
 |v::r,x::s,h=>by
   simp only[qU,ae] at h;simp only[mW,ae];exact⟨R5 h.1,I8 h.2⟩
theorem zR {x:AV} (h:yG x=true):WE x=true:=by cases x<;>first|(simp[yG] at h; done)|rfl|exact h
theorem ad4 {o:Operand} {a:AV} (h:cH o (.k a)=true):WE a=true:=by
 unfold cH at h;split at h
 ·rename_i hk; cases hk
 ·rename_i v x hk;cases hk;unfold chkV at h;split at h
  ·exact I8 h
  ·exact zR (R5 h)
 ·rename_i f g hk; cases hk; rfl
 ·rename_i hk; cases hk
 ·cases h
theorem UG (N:Names) {x:AV} (h:yG x=true):cu N x=x:=by cases x<;>first|rfl|simp[yG] at h
theorem UF (N:Names):∀{xs:List AV},mW xs=true->kj N xs=xs
 |[],_=>rfl
 |x::r,h=>by
   simp only[mW,ae] at h;simp only[kj];rw[UG N h.1,UF N h.2]
theorem tr_c (N:Names) {x:AV} (h:WE x=true):cu N x=x:=by
 unfold WE at h;split at h
 ·simp only[cu]; rw[UF N h]
 ·rfl
 ·exact UG N h
theorem dn_c {x:AV} (h:WE (dnV x)=true):(∃k,x=.own k []/\dnV x=.di)\/(WE x=true/\dnV x=x):=by
 unfold dnV at h ⊢;split
 ·exact .inl ⟨_,rfl,rfl⟩
 ·rename_i hn;split at h
  ·rename_i k; exact absurd rfl (hn k)
  ·exact .inr ⟨h,rfl⟩

def fS (N:Names):AV->AV
 |.own _ _=>.di
 |x=>cu N x
def gI (N:Names):List AV->List AV
 |[]=>[]
 |x::r=>fS N x::gI N r
def u7 (N:Names):AV->AV
 |.own _ _=>.di
 |.agg cs=>.agg (gI N cs)
 |x=>cu N x
def EO:AV->Prop
 |.own _ xs=>xs=[]
 |.agg cs=>∀(j k:Nat) (xs:List AV),cs[j]?=some (.own k xs)->xs=[]
 |_=>True
theorem n9 (N:Names):∀(cs:List AV) (i:Nat),(gI N cs)[i]?=(cs[i]?).map (fS N)
 |[],i=>by simp[gI]
 |x::r,i=>by cases i<;>simp[gI,n9 N r]
theorem iv (N:Names):∀cs:List AV,(gI N cs).length=cs.length
 |[]=>rfl
 |x::r=>by simp[gI,iv N r]
theorem kh (N:Names):∀{cs:List AV},bF cs=false->gI N cs=kj N cs
 |[],_=>rfl
 |x::r,h=>by
   simp only[gI,kj];cases x<;>simp[bF] at h<;>rw[kh N h]<;>rfl
theorem kJ (N:Names) {x:AV} (h:bH x=false):u7 N x=cu N x:=by
 cases x<;>first|rfl|(simp[bH] at h; done)|skip
 rename_i cs;simp only[bH] at h;simp only[u7,cu];rw[kh N h]
theorem Yy (N:Names) {x:AV} (h:∀cs,x=.agg cs->bF cs=false):fS N x=u7 N x:=by
 cases x<;>first|rfl|skip
 rename_i cs;simp only[fS,cu,u7];rw[kh N (h cs rfl)]
theorem GY (f:Nat->Rt):∀(cs:List AV) (j:Nat),bF (er f j cs)=false
 |[],j=>rfl
 |x::r,j=>by
   have ih:=GY f r (j+1);cases x<;>simp[er,bF,ih]
theorem KU (i:Nat) (v:AV):bH (eP i v)=false:=by
 cases v<;>simp[eP,bH]
 exact GY _ _ _
theorem AY (f:Nat->Rt):∀(cs:List AV) (j i:Nat),(er f j cs)[i]?=(cs[i]?).map (fun x=>match x with
  |.own k xs=>.du k (f (j+i)) 0 xs.length
  |x=>x)
 |[],j,i=>by simp[er]
 |x::r,j,i=>by
   cases i with
   |zero=>cases x<;>simp[er]
   |succ i=>
     have ih:=AY f r (j+1) i;rw[show j+1+i=j+(i+1) by omega] at ih;cases x<;>simp[er,ih]
theorem CY (N:Names) (f:Nat->Rt):∀(cs:List AV) (j:Nat),kj N (er f j cs)=M3 N f j cs
 |[],j=>rfl
 |x::r,j=>by
   have ih:=CY N f r (j+1);cases x<;>simp[er,kj,M3,iJ,ih]
   simp only[cu,qI,sk]
theorem OY (N:Names) (i:Nat) (v:AV):cu N (eP i v)=jW N i v:=by
 cases v<;>first|rfl|skip
 ·simp only[eP,cu,jW]; rw[CY]
 ·simp only[eP,cu,jW,iJ,qI,sk]
section
variable {X:Nat->Prop} {φ:cX} {w:World} {N:Names} {s:St} {Ha:Heap} {t:Nat->Value} {c:dM} {cA:Am.dM}
theorem abU {o:Rt->Option (Nat × List AV)} {nb:Nat} {x:AV} (h:yG x=true):ct o nb x:=by cases x<;>first|trivial|simp[yG] at h
theorem VY {o:Rt->Option (Nat × List AV)} {nb:Nat}:∀{xs:List AV},mW xs=true->jX o nb xs
 |[],_=>trivial
 |x::r,h=>by simp only[mW,ae] at h; exact⟨abU h.1,VY h.2⟩
theorem ok_c {o:Rt->Option (Nat × List AV)} {nb:Nat} {x:AV} (h:WE x=true):ct o nb x:=by
 unfold WE at h;split at h
 ·exact VY h
 ·exact⟨trivial,trivial,fun hy=>by rw[hy] at h; cases h⟩
 ·exact abU h
theorem A3:∀{xs:List AV},mW xs=true->bF xs=false
 |[],_=>rfl
 |x::r,h=>by
   simp only[mW,ae] at h;have:=A3 h.2;cases x<;>first|(simp[yG] at h; done)|simpa[bF] using this
theorem ZB {x:AV} (h:WE x=true):bH x=false:=by
 unfold WE at h;split at h
 ·exact A3 h
 ·rfl
 ·rename_i h1 h2;cases x<;>first|rfl|(simp[yG] at h; done)
theorem Q5 (h:dY X φ w N s Ha t) (i:Nat):ct (aq s) s.H.length (eP i (get s.env i)):=by
 have hk:=h.Cx i;have u4:at_ s (.s i)=some (get s.env i):=rfl;cases hv:get s.env i<;>rw[hv] at hk u4<;>try exact hk
 ·rename_i cs;simp only[eP,ct] at hk ⊢;refine fK.2 fun j c hc=>?_;rw[AY] at hc;cases hd:cs[j]? with
  |none=>rw[hd] at hc; cases hc
  |some d=>
    rw[hd] at hc;simp only[bV,af,eS] at hc;subst hc;have hdk:=fK.1 hk j d hd;split
    ·rename_i k xs;simp only[ct];exact⟨xs,bR.2 (by rw[Fe hv]; exact hd),by omega⟩
    ·exact hdk
 ·rename_i k xs;simp only[eP,ct];exact⟨xs,bR.2 u4,by omega⟩
structure pZ (N:Names) (s:St) (c:dM) (cA:Am.dM) (x:E):Prop where
 ev:Am.ev cA (ze N s.env) (kO x)=fS N (aR c s.env x)
 ok:ct (aq s) s.H.length (aR c s.env x)
 eo:∀k xs,aR c s.env x=.own k xs->xs=[]
 na:∀cs,aR c s.env x=.agg cs->bF cs=false
theorem cc (h:dY X φ w N s Ha t) (rj:cA.gl=c.gl) {o:Operand} {x:E} (hk:cH o (kO x)=true):pZ N s c cA x:=by
 cases x with
 |t i=>
   have hl:=KU i (get s.env i);refine⟨?_,Q5 h i,fun k xs e=>?_,fun cs e=>?_⟩
   ·simp only[kO,Am.ev,aR,mF];rw[<-OY];generalize eP i (get s.env i)=y at hl;cases y<;>first|rfl|simp[bH] at hl
   ·simp only[aR] at e; rw[e] at hl; simp[bH] at hl
   ·simp only[aR] at e; rw[e] at hl; exact hl
 |k a=>
   simp only[kO] at hk;rcases dn_c (ad4 hk) with⟨k,rfl,e⟩|⟨hc,e⟩
   ·exact⟨rfl,trivial,fun k' xs e=>by simp only[aR,AV.own.injEq] at e; exact e.2.symm,fun cs e=>by simp[aR] at e⟩
   ·refine⟨?_,ok_c hc,fun k xs e'=>?_,fun cs e'=>?_⟩
    ·simp only[kO,Am.ev,aR,e];have:=tr_c N hc;have hn:=ZB hc;cases a<;>first|exact this.symm|(simp[bH] at hn; done)
    ·simp only[aR] at e'; rw[e'] at hc; simp[WE,yG] at hc
    ·simp only[aR] at e'; rw[e'] at hc; exact A3 hc
 |g i=>exact⟨by simp[kO,Am.ev,aR,fS,cu,rj],trivial,fun k xs e=>by simp[aR] at e,fun cs e=>by simp[aR] at e⟩
theorem pZ.int {x:E} (h:pZ N s c cA x) {k:IntKind} {n:Int} (e:aR c s.env x=.int k n):Am.ev cA (ze N s.env) (kO x)=.int k n:=by rw[h.ev,e]; rfl
theorem pZ.bool {x:E} (h:pZ N s c cA x) {b:Bool} (e:aR c s.env x=.bool b):Am.ev cA (ze N s.env) (kO x)=.bool b:=by rw[h.ev,e]; rfl
theorem sW (h:dY X φ w N s Ha t) (rj:cA.gl=c.gl):∀{os:List Operand} {xs:List E},iy os (Bk xs)=true->Am.CH cA (ze N s.env) (Bk xs)=gI N (dm c s.env xs)/\jX (aq s) s.H.length (dm c s.env xs)
 |_,[],_=>⟨rfl,trivial⟩
 |[],x::r,hk=>by simp[Bk,iy] at hk
 |o::os,x::r,hk=>by
   simp only[Bk,iy,ae] at hk;obtain⟨h1,h2⟩:=sW h rj hk.2;have h3:=cc (c:=c) h rj hk.1;exact⟨by simp only[Bk,Am.CH,dm,gI,h1,h3.ev],h3.ok,h2⟩
theorem sg (h:dY X φ w N s Ha t) {k:Nat} {p:Rt} {off len:Nat} (ho:ct (aq s) s.H.length (.du k p off len)) :
  (∃n,N.ν p=some n/\cu N (.du k p off len)=.sl k n (off*k) len)\/(N.ν p=none/\off=0/\len=0/\cu N (.du k p off len)=.di):=by
 simp only[ct] at ho;obtain⟨xs,h1,h2⟩:=ho;cases kM:N.ν p with
 |some n=>exact .inl ⟨n,rfl,by simp[cu,kM]⟩
 |none=>
   have:=h.own p k xs h1;rw[kM] at this;have hx:xs=[]:=this;subst hx;simp at h2;exact .inr ⟨rfl,h2.1,h2.2,by simp[cu,kM]⟩
theorem DG (h:dY X φ w N s Ha t) {k:Nat} {p:Rt} {i off:Nat} (ho:ct (aq s) s.H.length (.eR k p i off)):∃n,N.ν p=some n/\cu N (.eR k p i off)=.ptr n (i*k+off):=by
 simp only[ct] at ho;obtain⟨xs,h1,h2⟩:=ho;cases kM:N.ν p with
 |some n=>exact⟨n,rfl,by simp[cu,kM]⟩
 |none=>
   have:=h.own p k xs h1;rw[kM] at this;have hx:xs=[]:=this;subst hx;simp at h2
end
end Go.Bm

/- Operations that change nothing: the older machine does the same. -/
namespace Go.Bm
open Go.Am
section
variable {P:Program}
theorem adY {op:Op} {y:E} (h:cG P op (.mv y)=true):∃x,cH x y=true:=by
 unfold cG at h; split at h<;>simp_all<;>exact⟨_,h⟩
theorem XD {op:Op} {a b d:E} (h:cG P op (.pick a b d)=true):(∃x,cH x a=true)/\(∃x,cH x b=true)/\∃ x,cH x d=true:=by
 unfold cG at h; split at h<;>simp_all; exact⟨⟨_,h.1.1⟩,⟨_,h.1.2⟩,⟨_,h.2⟩⟩
theorem aaF {op:Op} {y:E} (h:cG P op (.box y)=true):∃x,cH x y=true:=by
 unfold cG at h; split at h<;>simp_all; exact⟨_,h⟩
theorem T5 {op:Op} {y:E} (h:cG P op (.mA y)=true):∃x,cH x y=true:=by
 unfold cG at h; split at h<;>simp_all; exact⟨_,h⟩
theorem aaG {op:Op} {bo:BinOp} {a b:E} (h:cG P op (.bin bo a b)=true):(∃x,cH x a=true)/\∃ x,cH x b=true:=by
 unfold cG at h; split at h<;>simp_all; exact⟨⟨_,h.1.2⟩,⟨_,h.2⟩⟩
theorem ad3 {op:Op} {ng:Bool} {t:Et} {a b:E} (h:cG P op (.eq ng t a b)=true):(∃x,cH x a=true)/\∃ x,cH x b=true:=by
 unfold cG at h; split at h<;>simp_all; exact⟨⟨_,h.1.2⟩,⟨_,h.2⟩⟩
theorem adW {op:Op} {uo:UnOp} {y:E} (h:cG P op (.un uo y)=true):∃x,cH x y=true:=by
 unfold cG at h; split at h<;>simp_all; exact⟨_,h.2⟩
theorem aaD {op:Op} {k:IntKind} {y:E} (h:cG P op (.Jw k y)=true):∃x,cH x y=true:=by
 unfold cG at h; split at h<;>simp_all; exact⟨_,h.2⟩
theorem aat {op:Op} {fn:Fn} {a b:List E} (h:cG P op (.KJ fn a b)=true):(∃x,iy x a=true)/\∃ x,iy x b=true:=by
 unfold cG at h; split at h<;>simp_all; exact⟨⟨_,h.1.2⟩,⟨_,h.2⟩⟩
theorem R0 {op:Op} {k:Nat} {zs:List AV} {a b:E} (h:cG P op (.Jq k zs a b)=true):(∃t,ik P t k=true/\gN P t zs=true)/\(∃x,cH x a=true)/\∃ x,cH x b=true:=by
 unfold cG at h; split at h<;>simp_all; exact⟨⟨_,h.1.1⟩,⟨_,h.1.2⟩,⟨_,h.2⟩⟩
theorem aaB {op:Op} {off:Nat} {y:E} (h:cG P op (.Aa off y)=true):∃x,cH x y=true:=by
 unfold cG at h; split at h<;>simp_all; exact⟨_,h.2⟩
theorem R3 {op:Op} {n:Nat} {y:E} {hi:Option E} (h:cG P op (.F9 n y hi)=true):(∃x,cH x y=true)/\∀ e,hi=some e->∃x,cH x e=true:=by
 unfold cG at h; split at h<;>simp_all
 refine⟨⟨_,h.2.1⟩,fun e he=>?_⟩;subst he; have:=h.2.2; unfold qY at this; split at this<;>simp_all; exact⟨_,this⟩
theorem aaA {op:Op} {off:Nat} {ag:Option Nat} {y:E} (h:cG P op (.TR off ag y)=true):∃x,cH x y=true:=by
 unfold cG at h; split at h<;>simp_all; exact⟨_,h.2⟩
theorem aaz {op:Op} {k:Nat} {a b:E} (h:cG P op (.tH k a b)=true):(∃x,cH x a=true)/\∃ x,cH x b=true:=by
 unfold cG at h; split at h<;>simp_all; exact⟨⟨_,h.1.2⟩,⟨_,h.2⟩⟩
theorem aay {op:Op} {n k:Nat} {a b:E} (h:cG P op (.Ci n k a b)=true):(∃x,cH x a=true)/\∃ x,cH x b=true:=by
 unfold cG at h; split at h<;>simp_all; exact⟨⟨_,h.1.2⟩,⟨_,h.2⟩⟩
theorem ad0 {op:Op} {n k:Nat} {ag:Option Nat} {a b:E} (h:cG P op (.ix n k ag a b)=true):(∃x,cH x a=true)/\∃ x,cH x b=true:=by
 unfold cG at h; split at h<;>simp_all; exact⟨⟨_,h.1.2⟩,⟨_,h.2⟩⟩
theorem aaC {op:Op} {i:Nat} {y:E} (h:cG P op (.ext i y)=true):∃x,cH x y=true:=by
 unfold cG at h; split at h<;>simp_all; exact⟨_,h.2⟩
theorem aax {op:Op} {tab:List Nat} {y:E} (h:cG P op (.Ty tab y)=true):∃x,cH x y=true:=by
 unfold cG at h; split at h<;>simp_all; exact⟨_,h.2⟩
theorem aaw {op:Op} {y:E} (h:cG P op (.len y)=true):∃x,cH x y=true:=by
 unfold cG at h; split at h<;>simp_all
 split at h<;>simp_all; exact⟨_,h.2⟩
theorem aau {op:Op} {ys:List E} (h:cG P op (.min ys)=true):∃x,iy x ys=true:=by
 unfold cG at h; split at h<;>simp_all; exact⟨_,h⟩
theorem aav {op:Op} {ys:List E} (h:cG P op (.max ys)=true):∃x,iy x ys=true:=by
 unfold cG at h; split at h<;>simp_all; exact⟨_,h⟩
theorem aar {op:Op} {k:Nat} {y:E} {lo hi:Option E} (h:cG P op (.FC k y lo hi)=true):(∃x,cH x y=true)/\(∀e,lo=some e->∃x,cH x e=true)/\∀ e,hi=some e->∃x,cH x e=true:=by
 unfold cG at h; split at h<;>simp_all
 refine⟨⟨_,h.1.1.2⟩,fun e he=>?_,fun e he=>?_⟩
 ·subst he; have:=h.1.2; unfold qY at this; split at this<;>simp_all; exact⟨_,this⟩
 ·subst he; have:=h.2; unfold qY at this; split at this<;>simp_all; exact⟨_,this⟩
theorem xh {place:Nat->Option (Nat × Nat)}:∀{ps:List (Nat × Operand)} {qs:List (Nat × Nat × E)},qV place ps qs=true->∀q∈qs,∃x,cH x q.2.2=true
 |[],[],_,q,hq=>by simp at hq
 |[],_::_,h,_,_=>by simp[qV] at h
 |_::_,[],h,_,_=>by simp[qV] at h
 |p::r,q::s,h,q',hq=>by
   simp only[qV,ae] at h;rcases aK.1 hq with e|e
   ·subst e; exact⟨_,h.1.2⟩
   ·exact xh h.2 q' e
theorem T7 {op:Op} {zs:List AV} {ps:List (Nat × Nat × E)} (h:cG P op (.build zs ps)=true):(∃t,pf P t zs=true)/\∀ q∈ps,∃x,cH x q.2.2=true:=by
 unfold cG at h; split at h<;>simp_all
 obtain⟨h1,h2⟩:=h;refine⟨⟨_,h1⟩,?_⟩;split at h2
 ·simp_all; exact fun a b e hq=>xh h2.2 (a,b,e) hq
 ·split at h2
  ·exact fun a b e hq=>xh h2 (a,b,e) hq
  ·cases h2
 ·cases h2
theorem Oy {op:Op} {k n:Nat} {zs:List AV} {ps:List (Nat × Nat × E)} (h:cG P op (.eL k n zs ps)=true):(∃t,ik P t k=true/\gN P t zs=true)/\∀ q∈ps,∃x,cH x q.2.2=true:=by
 unfold cG at h; split at h<;>simp_all
 exact⟨⟨_,h.1.1.1.2,h.1.1.2⟩,fun a b e hq=>xh h.2 (a,b,e) hq⟩
theorem adZ {op:Op} {ag:Option Nat} {y:E} (h:cG P op (.ld ag y)=true):∃x,cH x y=true:=by
 unfold cG at h; split at h<;>simp_all; exact⟨_,h.2⟩
theorem adX {op:Op} {k:Nat} {a b:E} (h:cG P op (.st k a b)=true):(∃x,cH x a=true)/\∃ x,cH x b=true:=by
 unfold cG at h; split at h<;>simp_all; exact⟨⟨_,h.1.2⟩,⟨_,h.2⟩⟩
theorem aas {op:Op} {zs:List AV} (h:cG P op (.new zs)=true):∃t,pf P t zs=true:=by
 unfold cG at h; split at h<;>simp_all; exact⟨_,h⟩
theorem aaE {op:Op} {k:Nat} {zs:List AV} {y:E} (h:cG P op (.RZ k zs y)=true):(∃t,ik P t k=true/\gN P t zs=true)/\∃ x,cH x y=true:=by
 unfold cG at h; split at h<;>simp_all
 split at h<;>simp_all; exact⟨⟨_,h.1.1,h.1.2⟩,⟨_,h.2⟩⟩
theorem R4 {op:Op} {k:Nat} {a b:E} (h:cG P op (.app k a b)=true):(∃x,cH x a=true)/\∃ x,cH x b=true:=by
 unfold cG at h; split at h<;>simp_all
 split at h<;>simp_all; exact⟨⟨_,h.1.2⟩,⟨_,h.2⟩⟩
theorem Mh {op:Op} {k:Nat} {a b:E} (h:cG P op (.copy k a b)=true):(∃x,cH x a=true)/\∃ x,cH x b=true:=by
 unfold cG at h; split at h<;>simp_all
 split at h<;>simp_all; exact⟨⟨_,h.1.2⟩,⟨_,h.2⟩⟩
theorem sy {t:TypeId} {zs:List AV} (h:pf P t zs=true):mW zs=true/\bm zs=true:=by
 unfold pf at h;split at h
 ·split at h
  ·simp only[ae] at h; exact⟨I8 h.1,h.2⟩
  ·cases h
 ·cases h
end
end Go.Bm

/- Operations that change nothing: what they give. -/
set_option linter.unusedVariables false
namespace Go.Bm
open Go.Am
section
variable {P:Program} {X:Nat->Prop} {φ:cX} {w:World} {N:Names} {s:St} {Ha:Heap} {t:Nat->Value} {c:dM} {cA:Am.dM} {call:Nat->List AV->Heap->Option (AV × Heap)}
theorem sA (N:Names) (cs:List AV):gI N cs=cs.map (fS N):=by
 induction cs with
 |nil=>rfl
 |cons x r ih=>simp[gI,ih]
theorem O0 (N:Names) (cs:List AV):kj N cs=cs.map (cu N):=by
 induction cs with
 |nil=>rfl
 |cons x r ih=>simp[kj,ih]
theorem pZ.EO {x:E} (h:pZ N s c cA x):EO (aR c s.env x):=by
 cases e:aR c s.env x<;>simp only[Go.Bm.EO]
 ·rename_i cs;intro j k xs hj;exfalso;have:=h.na cs e;clear e
  induction cs generalizing j with
  |nil=>simp at hj
  |cons y r ih=>
    cases j with
    |zero=>simp at hj; subst hj; simp[bF] at this
    |succ j=>exact ih j (by simpa using hj) (by cases y<;>simp[bF] at this<;>exact this)
 ·exact h.eo _ _ e
theorem pZ.evQ {x:E} (h:pZ N s c cA x):Am.ev cA (ze N s.env) (kO x)=u7 N (aR c s.env x):=by rw[h.ev,Yy N h.na]
theorem Iw (h:dY X φ w N s Ha t) {x:AV} (hl:x.leaf=true) (hk:ct (aq s) s.H.length x):(fS N x).leaf=true:=by
 cases x<;>first|rfl|(simp[AV.leaf] at hl; done)|skip
 ·rename_i k p off len;simp only[fS,cu];cases N.ν p<;>rfl
 ·rename_i k p i off;obtain⟨n,_,e⟩:=DG h hk;simp only[fS,e,AV.leaf]
theorem tW (h:dY X φ w N s Ha t):∀{cs:List AV},bm cs=true->jX (aq s) s.H.length cs->bm (gI N cs)=true
 |[],_,_=>rfl
 |x::r,hl,hk=>by
   simp only[bm,ae] at hl;simp only[gI,bm,ae];exact⟨Iw h hl.1 hk.1,tW h hl.2 hk.2⟩
theorem E5 (N:Names) {x:AV} (hn:∀cs,x=.agg cs->bF cs=false):(fS N x).cells=gI N x.cells:=by
 cases x<;>first|rfl|skip
 ·rename_i cs; simp only[fS,cu,AV.cells]; rw[kh N (hn cs rfl)]
 ·rename_i k p off len;simp only[fS,cu,AV.cells,gI];cases N.ν p<;>rfl
 ·rename_i k p i off;simp only[fS,cu,AV.cells,gI];cases N.ν p<;>rfl
theorem vw {o:Rt->Option (Nat × List AV)} {nb:Nat} {x:AV} (h:ct o nb x):jX o nb x.cells:=by
 cases x<;>first|exact⟨h,trivial⟩|exact h
theorem KA {o:Rt->Option (Nat × List AV)} {nb n:Nat} {cs:List AV} (h:jX o nb cs):jX o nb (cs.take n):=
 fK.2 fun i c hc=>fK.1 h i c (by rw[bC] at hc; split at hc; exact hc; cases hc)
theorem zC {o:Rt->Option (Nat × List AV)} {nb n:Nat} {cs:List AV} (h:jX o nb cs):jX o nb (cs.drop n):=
 fK.2 fun i c hc=>fK.1 h (n+i) c (by rw[aO] at hc; exact hc)
theorem qJ {o:Rt->Option (Nat × List AV)} {nb:Nat}:∀{cs ds:List AV},jX o nb cs->jX o nb ds->jX o nb (cs++ds)
 |[],_,_,h=>h
 |x::r,_,h,k=>⟨h.1,qJ h.2 k⟩
theorem Zg {o:Rt->Option (Nat × List AV)} {nb off:Nat} {cs ds:List AV} (h:jX o nb cs) (k:jX o nb ds):jX o nb (iX cs off ds):=qJ (qJ (KA h) k) (zC h)
theorem acg (N:Names) (cs ds:List AV) (off:Nat):gI N (iX cs off ds)=iX (gI N cs) off (gI N ds):=by
 simp only[sA,iX,List.map_append,List.map_take,List.map_drop,cS]
def Si (cs:List AV):Prop:=∀(j k:Nat) (xs:List AV),cs[j]?=some (.own k xs)->xs=[]
theorem Si.iX {cs ds:List AV} {off:Nat} (h:Si cs) (k:Si ds):Si (Am.iX cs off ds):=by
 intro j kk xs hj;have:=aU hj;simp only[Am.iX,aC] at this
 have mem:∀{l:List AV},Si l->(.own kk xs)∈l->xs=[]:=fun hl hm=>by
  obtain⟨i,hi⟩:=bt hm;exact hl i _ _ hi
 rcases this with (hm|hm)|hm
 ·exact mem h (cP hm)
 ·exact mem k hm
 ·exact mem h (cQ hm)
theorem pZ.Si {x:E} (h:pZ N s c cA x):Si (aR c s.env x).cells:=by
 have he:=h.EO;cases e:aR c s.env x<;>rw[e] at he<;>simp only[AV.cells]<;>first|exact he|skip
 all_goals
  intro j k xs hj;cases j with
  |zero=>simp at hj<;>exact hj.2▸(by first|exact he|exact he)
  |succ j=>simp at hj
theorem rN (h:dY X φ w N s Ha t) (rj:cA.gl=c.gl):∀{ps:List (Nat × Nat × E)} {zs cs:List AV},(∀q∈L6 ps,∃x,cH x q.2.2=true)->jX (aq s) s.H.length zs->Si zs->qb c s.env zs ps=some cs ->
  oW cA (ze N s.env) (gI N zs) (L6 ps)=some (gI N cs)/\jX (aq s) s.H.length cs/\Si cs/\cs.length=zs.length
 |[],zs,cs,_,hz,he,hf=>by simp[qb] at hf; subst hf; exact⟨rfl,hz,he,rfl⟩
 |(off,sz,x)::r,zs,cs,hq,hz,he,hf=>by
   simp only[qb] at hf;split at hf
   case isFalse=>cases hf
   rename_i hc;obtain⟨c1,c2,c3⟩:=hc;obtain⟨o,ho⟩:=hq (off,sz,kO x) (by simp[L6]);have hx:=cc (c:=c) (cA:=cA) h rj ho;have mY:=E5 N hx.na;obtain⟨k1,k2,k3,k4⟩:=rN h rj (ps:=r) (fun q hq'=>hq q (by simp[L6,hq'])) (Zg hz (vw hx.ok)) (he.iX hx.Si) hf;refine⟨?_,k2,k3,?_⟩
   ·simp only[L6,oW,hx.ev,mY];rw[if_pos ⟨by rw[iv]; exact c1,by rw[iv]; exact c2,tW h c3 (vw hx.ok)⟩,<-acg];exact k1
   ·rw[k4]; exact fO (by omega)
theorem Ae (N:Names):∀{zs:List AV},mW (tQ zs)=true->tQ zs=gI N zs/\Si zs
 |[],_=>⟨rfl,fun j k xs h=>by simp at h⟩
 |x::r,h=>by
   simp only[tQ,mW,ae] at h;obtain⟨h1,h2⟩:=Ae N h.2;rcases dn_c (zR h.1) with⟨k,rfl,e⟩|⟨hc,e⟩
   ·refine⟨by simp only[tQ,gI,h1,e,fS],fun j k xs hj=>?_⟩;cases j with
    |zero=>simp at hj; exact hj.2
    |succ j=>exact h2 j k xs (by simpa using hj)
   ·rw[e] at h;refine⟨?_,fun j k xs hj=>?_⟩
    ·simp only[tQ,gI,h1,e];congr 1;have:=UG N h.1;cases x<;>first|exact this.symm|(simp[yG] at h; done)
    ·cases j with
     |zero=>simp at hj; subst hj; simp[yG] at h
     |succ j=>exact h2 j k xs (by simpa using hj)
theorem zy {o:Rt->Option (Nat × List AV)} {nb:Nat}:∀{zs:List AV},mW (tQ zs)=true->jX o nb zs
 |[],_=>trivial
 |x::r,h=>by
   simp only[tQ,mW,ae] at h;rcases dn_c (zR h.1) with⟨k,rfl,e⟩|⟨hc,e⟩
   ·exact⟨trivial,zy h.2⟩
   ·exact⟨ok_c hc,zy h.2⟩
theorem Oc (N:Names):∀{l:List Bool} {xs ys:List AV} {e:Bool},xf l xs ys=some e->xf l (gI N xs) (gI N ys)=some e
 |[],[],[],e,h=>h
 |true::l,x::r,y::s,e,h=>by
   cases x<;>try (simp[xf] at h; done)
   cases y<;>try (simp[xf] at h; done)
   simp only[xf,gI,fS,cu] at h ⊢;split at h
   ·rename_i hk;rw[if_pos hk];split at h
    ·rename_i e' he;rw[Oc N he];exact h
    ·cases h
   ·cases h
 |false::l,x::r,y::s,e,h=>by
   cases x<;>try (simp[xf] at h; done)
   cases y<;>try (simp[xf] at h; done)
   simp only[xf,gI,fS,cu] at h ⊢;split at h
   ·rename_i e' he;rw[Oc N he];exact h
   ·cases h
 |[],x::r,ys,e,h=>by simp[xf] at h
 |[],[],y::s,e,h=>by simp[xf] at h
 |b::l,[],ys,e,h=>by cases b<;>simp[xf] at h
 |b::l,x::r,[],e,h=>by cases b<;>cases x<;>simp[xf] at h
theorem Rj (N:Names) (mx:Bool):∀{xs:List AV} {x v:AV},yz mx x xs=some v->(∃k n,x=.int k n)->yz mx x (gI N xs)=some v/\∃ k n,v=.int k n
 |[],x,v,h,hx=>by simp[yz] at h; subst h; exact⟨rfl,hx⟩
 |y::r,x,v,h,hx=>by
   obtain⟨k,n,rfl⟩:=hx;cases y<;>try (simp[yz] at h; done)
   simp only[yz,gI,fS,cu] at h ⊢;exact Rj N mx h ⟨_,_,rfl⟩
theorem Rk (N:Names) {mx:Bool} {xs:List AV} {v:AV} (h:xy mx xs=some v):xy mx (gI N xs)=some v/\∃ k n,v=.int k n:=by
 cases xs with
 |nil=>simp[xy] at h
 |cons y r=>
   cases y<;>try (simp[xy] at h; done)
   simp only[xy,gI,fS,cu] at h ⊢;exact Rj N mx h ⟨_,_,rfl⟩
theorem Sb {op:BinOp} {x y v:AV} (h:qg op x y=some v):((∃k n,x=.int k n)/\(∃k n,y=.int k n)/\((∃k n,v=.int k n)\/∃ b,v=.bool b))\/(∃a,x=.str a)/\(∃b,y=.str b)/\∃ s,v=.str s:=by
 unfold qg at h;split at h
 case h_3=>cases h
 case h_2=>
  split at h
  case h_2=>cases h
  split at h
  case isFalse=>cases h
  simp only[af] at h;exact .inr ⟨⟨_,rfl⟩,⟨_,rfl⟩,_,h.symm⟩
 refine .inl ⟨⟨_,_,rfl⟩,⟨_,_,rfl⟩,?_⟩;split at h
 ·split at h
  ·cases h
  ·simp at h; exact .inl ⟨_,_,h.symm⟩
 ·split at h
  ·cases h
  ·simp at h; exact .inl ⟨_,_,h.symm⟩
 ·split at h
  ·unfold arith at h
   split at h<;>first
    |(simp at h; exact .inl ⟨_,_,h.symm⟩)
    |(simp at h; exact .inr ⟨_,h.symm⟩)
    | (split at h
       ·cases h
       ·simp at h; exact .inl ⟨_,_,h.symm⟩)
    |cases h
  ·cases h
theorem JP {v:AV} (h:(∃k n,v=.int k n)\/∃ b,v=.bool b) (o:Rt->Option (Nat × List AV)) (nb:Nat):u7 N v=v/\ct o nb v/\EO v:=by
 rcases h with⟨k,n,rfl⟩|⟨b,rfl⟩<;>exact⟨rfl,trivial,trivial⟩
theorem Nk (N:Names) {ag:Option Nat} {cs:List AV} {v:AV} {o:Rt->Option (Nat × List AV)} {nb:Nat} (h:H7 ag cs=some v) (hk:jX o nb cs):AA ag (kj N cs)=some (u7 N v)/\ct o nb v/\EO v/\bH v=false:=by
 unfold H7 at h;split at h
 case h_2=>cases h
 rename_i v' hr;split at h
 ·cases h
 rename_i ho;simp at h ho;subst h
 have he:EO v':=by
  cases v'<;>simp only[EO]<;>try (simp[bH] at ho; done)
  rename_i ds;intro j k xs hj;exfalso;simp only[bH] at ho;clear hr
  induction ds generalizing j with
  |nil=>simp at hj
  |cons y r ih=>
    cases j with
    |zero=>simp at hj; subst hj; simp[bF] at ho
    |succ j=>exact ih (by cases y<;>simp[bF] at ho<;>exact ho) j (by simpa using hj)
 unfold AA at hr ⊢;cases ag with
 |some k=>
   simp only at hr ⊢;split at hr
   case isFalse=>cases hr
   rename_i hle;simp at hr;subst hr;rw[if_pos (by rw[dw]; exact hle),kJ N ho];exact⟨by simp only[cu,O0,List.map_take],KA hk,he,ho⟩
 |none=>
   simp only at hr ⊢;cases cs with
   |nil=>cases hr
   |cons x r=>
     simp at hr;subst hr;rw[kJ N ho];exact⟨by simp[kj],hk.1,he,ho⟩
theorem C0 (N:Names) (cs:List AV) (n:Nat):(kj N cs).drop n=kj N (cs.drop n):=by simp only[O0,List.map_drop]
end
end Go.Bm

/- Operations that change nothing: the older machine does the same. -/
namespace Go.Bm
open Go.Am
section
variable {P:Program} {X:Nat->Prop} {φ:cX} {w:World} {N:Names} {s:St} {Ha:Heap} {t:Nat->Value} {c:dM} {cA:Am.dM} {call:Nat->List AV->Heap->Option (AV × Heap)}
theorem OE (h:dY X φ w N s Ha t) (rj:cA.gl=c.gl) {d m n:Nat} {x:Option E} (hk:∀e,dnO x=some e->∃o,cH o e=true) (hb:yZ c s.env d m x=some n):Ai cA (ze N s.env) d m (dnO x)=some n:=by
 cases x with
 |none=>exact hb
 |some x=>
   obtain⟨o,ho⟩:=hk _ rfl;simp only[yZ] at hb;simp only[dnO,Ai];cases e:aR c s.env x<;>rw[e] at hb<;>try (simp[bnd] at hb; done)
   rw[(cc (c:=c) (cA:=cA) h rj ho).int e];exact hb
theorem A8 {x:AV} {n m:Nat} (h:idx x n=some m):∃k i,x=.int k i/\idx (.int k i) n=some m/\m<n:=by
 unfold idx at h;split at h
 ·rename_i k i;refine⟨k,i,rfl,h,?_⟩;split at h
  ·simp at h; omega
  ·cases h
 ·cases h
theorem Rp (h:dY X φ w N s Ha t) {x:E} (hx:pZ N s c cA x) {n:Nat} (hl:tG (aR c s.env x)=some n):Wp (Am.ev cA (ze N s.env) (kO x))=some n:=by
 rw[hx.ev];have hk:=hx.ok;cases e:aR c s.env x<;>rw[e] at hl hk<;>try (simp[tG] at hl; done)
 ·exact hl
 ·exact hl
 ·exact hl
 ·rename_i k xs;have:=hx.eo k xs e;subst this;exact hl
 ·rename_i k p off len;simp only[tG] at hl;cases hl;simp only[fS];rcases sg h hk with⟨m,_,e2⟩|⟨_,_,rfl,e2⟩<;>rw[e2]<;>rfl
theorem acO (h:dY X φ w N s Ha t) (rj:cA.gl=c.gl) {op:Op} {kd:Kd} {v:AV} (hk:cG P op (kz kd)=true) (hs:Nt c s.env kd=some v) :
  fi cA call (ze N s.env) Ha (kz kd)=some (u7 N v,Ha,.no)/\ct (aq s) s.H.length v/\EO v:=by
 cases kd<;>simp only[Nt,reduceCtorEq] at hs<;>simp only[kz] at hk ⊢
 case mv x=>
  obtain⟨o,ho⟩:=adY hk;have hx:=cc (c:=c) (cA:=cA) h rj ho;simp at hs;subst hs;exact⟨by simp only[fi,hx.evQ],hx.ok,hx.EO⟩
 case pick x a b=>
  obtain⟨⟨o1,h1⟩,⟨o2,h2⟩,o3,h3⟩:=XD hk;have hx:=cc (c:=c) (cA:=cA) h rj h1;have ha:=cc (c:=c) (cA:=cA) h rj h2;have hb:=cc (c:=c) (cA:=cA) h rj h3;split at hs
  case h_2=>cases hs
  rename_i b' he;simp at hs;subst hs;simp only[fi,hx.bool he];cases b'
  ·exact⟨by simp[hb.evQ],by simpa using hb.ok,by simpa using hb.EO⟩
  ·exact⟨by simp[ha.evQ],by simpa using ha.ok,by simpa using ha.EO⟩
 case build zs ps=>
  obtain⟨⟨t,ht⟩,hq⟩:=T7 hk;obtain⟨e1,e2⟩:=Ae N (sy ht).1;split at hs
  case h_2=>cases hs
  rename_i cs hf;simp at hs;subst hs;obtain⟨k1,k2,k3,k4⟩:=rN (cA:=cA) h rj hq (zy (sy ht).1) e2 hf;rw[e1];exact⟨by simp only[fi,k1,u7],k2,k3⟩
 case mA x=>
  obtain⟨o,ho⟩:=T5 hk;have hx:=cc (c:=c) (cA:=cA) h rj ho;have cW:=hx.ok;simp only[fi,hx.ev];cases e:aR c s.env x<;>rw[e] at hs cW<;>try (simp at hs; done)
  ·simp at hs; subst hs; exact⟨rfl,trivial,trivial⟩
  ·simp at hs; subst hs; exact⟨rfl,cW,trivial⟩
  ·rename_i f a b;cases f<;>simp at hs
   subst hs;exact⟨rfl,cW,trivial⟩
 case bin op' x y=>
  obtain⟨⟨o1,h1⟩,o2,h2⟩:=aaG hk;have hx:=cc (c:=c) (cA:=cA) h rj h1;have hy:=cc (c:=c) (cA:=cA) h rj h2;rcases Sb hs with⟨⟨k1,n1,e1⟩,⟨k2,n2,e2⟩,hv⟩|⟨⟨a,e1⟩,⟨b,e2⟩,u,rfl⟩
  ·obtain⟨q1,q2,q3⟩:=JP (N:=N) hv (aq s) s.H.length;rw[e1,e2] at hs;simp only[fi,hx.int e1,hy.int e2,hs,q1];exact⟨trivial,q2,q3⟩
  ·rw[e1,e2] at hs;have f1:=hx.ev;have f2:=hy.ev;rw[e1] at f1;rw[e2] at f2;simp only[fS,cu] at f1 f2;simp only[fi,f1,f2,hs];exact⟨rfl,trivial,trivial⟩
 case eq ng et x y=>
  obtain⟨⟨o1,h1⟩,o2,h2⟩:=ad3 hk;have hx:=cc (c:=c) (cA:=cA) h rj h1;have hy:=cc (c:=c) (cA:=cA) h rj h2;split at hs
  case h_2=>cases hs
  rename_i e he;simp at hs;subst hs;refine⟨?_,trivial,trivial⟩
  have:TV et (Am.ev cA (ze N s.env) (kO x)) (Am.ev cA (ze N s.env) (kO y))=some e:=by
   rw[hx.ev,hy.ev];have hxk:=hx.ok;unfold eqB at he;split at he
   ·rename_i a b e1 e2; rw[e1,e2]; exact he
   ·rename_i l xs ys e1 e2;have n1:=hx.na _ e1;have n2:=hy.na _ e2;rw[e1,e2];simp only[fS,cu,TV];rw[<-kh N n1,<-kh N n2];exact Oc N he
   ·rename_i z k e2;rw[e2];simp only[fS];cases e1:aR c s.env x<;>rw[e1] at he hxk<;>try (simp[gG] at he; done)
    ·simpa[gG,TV,isNil,fS,cu] using he
    ·rename_i k' xs;cases xs with
     |nil=>simp[gG] at he
     |cons u r=>simpa[gG,TV,isNil,fS,cu] using he
    ·simpa[gG,TV,isNil,fS,cu] using he
    ·rename_i k' p off len;simp only[gG] at he;split at he
     ·cases he
     ·rename_i hlen;simp at he;subst he;simp only[fS];rcases sg h hxk with⟨m,_,e3⟩|⟨_,_,h0,_⟩
      ·rw[e3]; rfl
      ·exact absurd h0 hlen
   ·rename_i z e2;rw[e2];simp only[fS];cases e1:aR c s.env x<;>rw[e1] at he hxk<;>try (simp[gG] at he; done)
    ·simpa[gG,TV,isNil,fS,cu] using he
    ·rename_i k' xs;cases xs with
     |nil=>simp[gG] at he
     |cons u r=>simpa[gG,TV,isNil,fS,cu] using he
    ·simpa[gG,TV,isNil,fS,cu] using he
    ·rename_i k' p off len;simp only[gG] at he;split at he
     ·cases he
     ·rename_i hlen;simp at he;subst he;simp only[fS];rcases sg h hxk with⟨m,_,e3⟩|⟨_,_,h0,_⟩
      ·rw[e3]; rfl
      ·exact absurd h0 hlen
   ·rename_i z e2;rw[e2];cases e1:aR c s.env x<;>rw[e1] at he<;>try (simp[gG] at he; done)
    all_goals simpa[gG,TV,isNil,fS,cu] using he
   ·rename_i z e2;rw[e2];cases e1:aR c s.env x<;>rw[e1] at he<;>try (simp[gG] at he; done)
    all_goals simpa[gG,TV,isNil,fS,cu] using he
   ·cases he
  simp only[fi,this,u7,cu]
 case un uo x=>
  obtain⟨o,ho⟩:=adW hk;have hx:=cc (c:=c) (cA:=cA) h rj ho;simp only[fi,hx.ev];cases e:aR c s.env x<;>rw[e] at hs<;>try (cases uo<;>simp[M1] at hs; done)
  ·have:(∃k n,v=.int k n)\/∃ b,v=.bool b:=by
    cases uo<;>simp[M1] at hs
    ·exact .inl ⟨_,_,hs.symm⟩
    ·exact .inl ⟨_,_,hs.symm⟩
   obtain⟨q1,q2,q3⟩:=JP (N:=N) this (aq s) s.H.length;simp only[fS,cu,hs,q1];exact⟨trivial,q2,q3⟩
  ·have:(∃k n,v=.int k n)\/∃ b,v=.bool b:=by
    cases uo<;>simp[M1] at hs
    exact .inr ⟨_,hs.symm⟩
   obtain⟨q1,q2,q3⟩:=JP (N:=N) this (aq s) s.H.length;simp only[fS,cu,hs,q1];exact⟨trivial,q2,q3⟩
 case Jw k x=>
  obtain⟨o,ho⟩:=aaD hk;have hx:=cc (c:=c) (cA:=cA) h rj ho;split at hs
  case h_2=>cases hs
  rename_i k' n e;simp at hs;subst hs;simp only[fi,hx.int e];exact⟨rfl,trivial,trivial⟩
 case KJ fn a b=>
  obtain⟨⟨o1,h1⟩,o2,h2⟩:=aat hk;obtain⟨a1,a2⟩:=sW (cA:=cA) h rj h1;obtain⟨b1,b2⟩:=sW (cA:=cA) h rj h2;split at hs
  ·cases hs
  rename_i ho;simp at hs ho;subst hs
  have sp:∀{xs ys:List AV},bF (xs++ys)=false->bF xs=false/\bF ys=false:=by
   intro xs
   induction xs with
   |nil=>intro ys h; exact⟨rfl,h⟩
   |cons z r ih=>
     intro ys h;cases z<;>simp[bF] at h ⊢<;>exact ih h
  obtain⟨hy,ho⟩:=ho;obtain⟨p1,p2⟩:=sp ho;refine⟨?_,⟨a2,b2,fun Ey=>by rw[hy] at Ey; cases Ey⟩,trivial⟩;simp only[fi,a1,b1,u7,cu,kh N p1,kh N p2,hy,Bool.false_eq_true,if_false]
 case FC k x lo hi=>
  obtain⟨⟨o,ho⟩,h1,h2⟩:=aar hk;have hx:=cc (c:=c) (cA:=cA) h rj ho;have cW:=hx.ok;split at hs
  case h_2=>cases hs
  rename_i n hn;split at hs
  case h_2=>cases hs
  rename_i hh hhh;split at hs
  case h_2=>cases hs
  rename_i l hl;have g1:=Rp h hx hn;have g2:=OE h rj h2 hhh;have g3:=OE h rj h1 hl
  have bb:∀{d m n:Nat} {x:Option E},yZ c s.env d m x=some n->d<=m->n<=m:=by
   intro d m n x hb hd;cases x with
   |none=>simp[yZ] at hb; omega
   |some x=>
     simp only[yZ] at hb;unfold bnd at hb;split at hb
     ·split at hb
      ·simp at hb; omega
      ·cases hb
     ·cases hb
  have l1:=bb hhh (aG _);have l2:=bb hl (Nat.zero_le _);simp only[fi,g1,g2,g3];rw[hx.ev];cases e:aR c s.env x<;>rw[e] at hs cW hn<;>try (simp at hs; done)
  ·rename_i k' xs;simp only at hs;split at hs
   case isFalse=>cases hs
   rename_i tq;simp at hs;subst hs;simp only[fS,cu];rw[if_pos tq];exact⟨rfl,trivial,trivial⟩
  ·rename_i k' b off len;simp only at hs;split at hs
   case isFalse=>cases hs
   rename_i tq;simp at hs;subst hs;simp only[fS,cu];rw[if_pos tq];exact⟨rfl,cW,trivial⟩
  ·rename_i k' xs;have:=hx.eo k' xs e;subst this;simp only at hs;split at hs
   case isFalse=>cases hs
   simp at hs;subst hs;exact⟨rfl,trivial,rfl⟩
  ·rename_i k' p off len;simp only at hs;split at hs
   case isFalse=>cases hs
   rename_i tq;subst tq;simp at hs;subst hs;simp only[tG,af] at hn;subst hn
   have WU:ct (aq s) s.H.length (.du k' p (off+l) (hh-l)):=by
    simp only[ct] at cW ⊢;obtain⟨xs,e1,e2⟩:=cW;exact⟨xs,e1,by omega⟩
   refine⟨?_,WU,trivial⟩;simp only[fS];rcases sg h cW with⟨m,hm,e3⟩|⟨hm,e0,e1,e3⟩
   ·rw[e3];simp only[if_true,u7,cu,hm,cj]
   ·rw[e3];simp only[u7,cu,hm]
 case Aa off x=>
  obtain⟨o,ho⟩:=aaB hk;have hx:=cc (c:=c) (cA:=cA) h rj ho;have cW:=hx.ok;simp only[fi,hx.ev];cases e:aR c s.env x<;>rw[e] at hs cW<;>try (simp at hs; done)
  ·simp at hs; subst hs; exact⟨rfl,trivial,trivial⟩
  ·simp at hs; subst hs; exact⟨rfl,cW,trivial⟩
  ·rename_i k p i o';simp at hs;subst hs;have WU:ct (aq s) s.H.length (.eR k p i (o'+off)):=cW;refine⟨?_,WU,trivial⟩;obtain⟨m,hm,e2⟩:=DG h cW;simp only[fS,e2,u7,cu,hm,Nat.add_assoc]
 case F9 n x hi=>
  cases hi with
  |some y=>simp at hs
  |none=>
  obtain⟨⟨o,ho⟩,_⟩:=R3 hk;have hx:=cc (c:=c) (cA:=cA) h rj ho;have cW:=hx.ok;simp only[fi,hx.ev,dnO,Ai];simp only at hs;cases e:aR c s.env x<;>rw[e] at hs cW<;>try (simp at hs; done)
  rename_i cs;simp only at hs;split at hs
  case isFalse=>cases hs
  rename_i hc;simp at hs;subst hs;simp only[fS,cu];rw[if_pos ⟨hc.1,trivial,hc.2⟩];exact⟨rfl,trivial,trivial⟩
 case TR off ag x=>
  obtain⟨o,ho⟩:=aaA hk;have hx:=cc (c:=c) (cA:=cA) h rj ho;have cW:=hx.ok;simp only[fi,hx.ev];cases e:aR c s.env x<;>rw[e] at hs cW<;>try (simp at hs; done)
  rename_i cs;simp only at hs;obtain⟨r1,r2,r3,_⟩:=Nk N hs (zC (n:=off) cW);simp only[fS,cu,C0,r1];exact⟨trivial,r2,r3⟩
 case tH k x i=>
  obtain⟨⟨o1,h1⟩,o2,h2⟩:=aaz hk;have hx:=cc (c:=c) (cA:=cA) h rj h1;have hi:=cc (c:=c) (cA:=cA) h rj h2;have cW:=hx.ok;simp only[fi,hx.ev];cases e:aR c s.env x<;>rw[e] at hs cW<;>try (simp at hs; done)
  ·rename_i k' xs;simp only at hs;split at hs
   case h_2=>cases hs
   rename_i j hj;obtain⟨ki,ni,e2,MG,_⟩:=A8 hj;split at hs
   case isFalse=>cases hs
   rename_i tq;split at hs
   case h_2=>cases hs
   rename_i u hu;simp at hs;subst hs;simp only[fS,cu,hi.int e2,MG,if_pos tq,hu];exact⟨rfl,trivial,trivial⟩
  ·rename_i k' b off len;simp only at hs;split at hs
   case h_2=>cases hs
   rename_i j hj;obtain⟨ki,ni,e2,MG,_⟩:=A8 hj;split at hs
   case isFalse=>cases hs
   rename_i tq;simp at hs;subst hs;simp only[fS,cu,hi.int e2,MG,if_pos tq];exact⟨rfl,cW,trivial⟩
  ·rename_i k' p off len;simp only at hs;split at hs
   case h_2=>cases hs
   rename_i j hj;obtain⟨ki,ni,e2,MG,bY⟩:=A8 hj;split at hs
   case isFalse=>cases hs
   rename_i tq;subst tq;simp at hs;subst hs;simp only[fS];rcases sg h cW with⟨m,hm,e3⟩|⟨_,_,h0,_⟩
   ·rw[e3];simp only[hi.int e2,MG,if_true,u7,cu,hm,cj,Nat.add_zero];refine⟨trivial,?_,trivial⟩;simp only[ct] at cW ⊢;obtain⟨xs,q1,q2⟩:=cW;exact⟨xs,q1,by omega⟩
   ·omega
 case Ci n k x i=>
  obtain⟨⟨o1,h1⟩,o2,h2⟩:=aay hk;have hx:=cc (c:=c) (cA:=cA) h rj h1;have hi:=cc (c:=c) (cA:=cA) h rj h2;have cW:=hx.ok;split at hs
  case h_2=>cases hs
  rename_i j hj;obtain⟨ki,ni,e2,MG,_⟩:=A8 hj;simp only[fi,hi.int e2,MG,hx.ev];cases e:aR c s.env x<;>rw[e] at hs cW<;>try (simp at hs; done)
  ·simp at hs; subst hs; exact⟨rfl,trivial,trivial⟩
  ·simp at hs; subst hs; exact⟨rfl,cW,trivial⟩
  ·rename_i k' p l off;simp at hs;subst hs;have WU:ct (aq s) s.H.length (.eR k' p l (off+j*k)):=cW;refine⟨?_,WU,trivial⟩;obtain⟨m,hm,e3⟩:=DG h cW;simp only[fS,e3,u7,cu,hm,Nat.add_assoc]
 case ix n k ag x i=>
  obtain⟨⟨o1,h1⟩,o2,h2⟩:=ad0 hk;have hx:=cc (c:=c) (cA:=cA) h rj h1;have hi:=cc (c:=c) (cA:=cA) h rj h2;have cW:=hx.ok;split at hs
  case h_2=>cases hs
  rename_i j hj;obtain⟨ki,ni,e2,MG,_⟩:=A8 hj;simp only[fi,hi.int e2,MG,hx.ev];cases e:aR c s.env x<;>rw[e] at hs cW<;>try (simp at hs; done)
  rename_i cs;simp only at hs;obtain⟨r1,r2,r3,_⟩:=Nk N hs (zC (n:=j*k) cW);simp only[fS,cu,C0,r1];exact⟨trivial,r2,r3⟩
 case ext i x=>
  obtain⟨o,ho⟩:=aaC hk;have hx:=cc (c:=c) (cA:=cA) h rj ho;have cW:=hx.ok;simp only[fi,hx.ev];cases e:aR c s.env x<;>rw[e] at hs cW<;>try (simp at hs; done)
  rename_i vs;simp only at hs;split at hs
  case h_2=>cases hs
  rename_i u hu;split at hs
  ·cases hs
  rename_i gV;simp at hs gV;subst hs;simp only[fS,cu,lV,hu,bV];refine⟨by rw[kJ N gV],fK.1 cW i u hu,?_⟩;cases u<;>simp only[EO]<;>try (simp[bH] at gV; done)
  rename_i ds;intro j k xs hj;exfalso;simp only[bH] at gV;clear hu
  induction ds generalizing j with
  |nil=>simp at hj
  |cons y r ih=>
    cases j with
    |zero=>simp at hj; subst hj; simp[bF] at gV
    |succ j=>exact ih (by cases y<;>simp[bF] at gV<;>exact gV) j (by simpa using hj)
 case Ty tab i=>
  obtain⟨o,ho⟩:=aax hk;have hi:=cc (c:=c) (cA:=cA) h rj ho;split at hs
  case h_2=>cases hs
  rename_i j hj;obtain⟨ki,ni,e2,MG,_⟩:=A8 hj;split at hs
  case h_2=>cases hs
  rename_i u hu;simp at hs;subst hs;simp only[fi,hi.int e2,MG,hu];exact⟨rfl,trivial,trivial⟩
 case len x=>
  obtain⟨o,ho⟩:=aaw hk;have hx:=cc (c:=c) (cA:=cA) h rj ho;split at hs
  case h_2=>cases hs
  rename_i n hn;simp at hs;subst hs;simp only[fi,Rp h hx hn];exact⟨rfl,trivial,trivial⟩
 case min xs=>
  obtain⟨o,ho⟩:=aau hk;obtain⟨a1,a2⟩:=sW (cA:=cA) h rj ho;obtain⟨m1,m2⟩:=Rk N hs;obtain⟨q1,q2,q3⟩:=JP (N:=N) (.inl m2) (aq s) s.H.length;simp only[fi,a1,m1,q1];exact⟨trivial,q2,q3⟩
 case max xs=>
  obtain⟨o,ho⟩:=aav hk;obtain⟨a1,a2⟩:=sW (cA:=cA) h rj ho;obtain⟨m1,m2⟩:=Rk N hs;obtain⟨q1,q2,q3⟩:=JP (N:=N) (.inl m2) (aq s) s.H.length;simp only[fi,a1,m1,q1];exact⟨trivial,q2,q3⟩
end
end Go.Bm

/- A value in hand; operations that read and make. -/
namespace Go.Bm
open Go.Am
section
variable {P:Program} {X:Nat->Prop} {φ:cX} {w:World} {N N':Names} {s:St} {Ha:Heap} {t t':Nat->Value} {B:Nat->Nat} {base:Nat} {v:AV} {v':Value}
theorem CZ (dX:N'.β=N.β) {x:AV} (h:∀p∈aI x,N'.ν p=N.ν p):cu N' x=cu N x:=by
 have e:=UD (N:=N) (N':=N') (m:=id) (g:=fun y=>y) dX (fun _ _ _ _=>⟨rfl,rfl⟩) x h;have:cC (fun y=>y) x=x:=rG (m:=id) (fun _ _ _ _=>⟨rfl,rfl⟩) x (fun _ _=>rfl)
 rwa [this] at e
theorem Gh (dX:N'.β=N.β) {r:Rt} {x:AV} (hr:∀k xs,x=.own k xs->N'.ν r=N.ν r) (h:∀p∈aI x,N'.ν p=N.ν p):iJ N' r x=iJ N r x:=by
 have e:=xZ (N:=N) (N':=N') (m:=id) (g:=fun y=>y) dX (fun _ _ _ _=>⟨rfl,rfl⟩) (r:=r) (r':=r) hr h;have:cC (fun y=>y) x=x:=rG (m:=id) (fun _ _ _ _=>⟨rfl,rfl⟩) x (fun _ _=>rfl)
 rwa [this] at e
theorem Tb (dX:N'.β=N.β) {i:Nat} {x:AV} (h1:N'.ν (.s i)=N.ν (.s i)) (h2:∀j,N'.ν (.sc i j)=N.ν (.sc i j)) (h:∀p∈aI x,N'.ν p=N.ν p):jW N' i x=jW N i x:=by
 have e:=HT (N:=N) (N':=N') (m:=id) (g:=fun y=>y) dX (fun _ _ _ _=>⟨rfl,rfl⟩) (i:=i) (i':=i) h1 h2 h;have:cC (fun y=>y) x=x:=rG (m:=id) (fun _ _ _ _=>⟨rfl,rfl⟩) x (fun _ _=>rfl)
 rwa [this] at e
theorem dY.du (h:dY X φ w N s Ha t) {r:Rt} {x:AV} (hx:at_ s r=some x):∀p∈aI x,(aq s p).isSome:=AH x (h.zA hx)
theorem aed {i:Nat} (hi:get s.env i=.any) {q:Rt} (hq:bq i q=false):at_ ⟨put s.env i v,s.H⟩ q=at_ s q:=by
 cases q with
 |s j=>simp only[bq,decide_eq_false_iff_not] at hq; simp[at_,bz,hq]
 |sc j l=>simp only[bq,decide_eq_false_iff_not] at hq; simp[at_,bz,hq]
 |c b j=>rfl
theorem nu {i:Nat} (hi:get s.env i=.any) {q:Rt} (hq:bq i q=false):aq ⟨put s.env i v,s.H⟩ q=aq s q:=gJ (aed hi hq)
theorem Se {i:Nat} (hi:get s.env i=.any) {q:Rt} (hq:bq i q=true):aq s q=none:=by
 have ho:bH (get s.env i)=false:=by rw[hi]; rfl
 obtain⟨h1,h2⟩:=dK ho;cases q with
 |s j=>simp only[bq,decide_eq_true_eq] at hq; subst hq; exact h1
 |sc j l=>simp only[bq,decide_eq_true_eq] at hq; subst hq; exact h2 l
 |c b j=>simp[bq] at hq
mutual
theorem iL {o o':Rt->Option (Nat × List AV)} {nb GP:Nat} (ho:∀p,(o p).isSome->o' p=o p) (hn:nb<=GP):∀x,ct o nb x->ct o' GP x
 |.du k p off len,h=>by simp only[ct] at h ⊢; obtain⟨xs,e,h2⟩:=h; exact⟨xs,by rw[ho p (by rw[e]; rfl)]; exact e,h2⟩
 |.eR k p i off,h=>by simp only[ct] at h ⊢; obtain⟨xs,e,h2⟩:=h; exact⟨xs,by rw[ho p (by rw[e]; rfl)]; exact e,h2⟩
 |.ptr b off,h=>by simp only[ct] at h ⊢; omega
 |.agg cs,h=>by simp only[ct] at h ⊢; exact vB ho hn cs h
 |.dA cs,h=>by simp only[ct] at h ⊢; exact vB ho hn cs h
 |.func f a b,h=>by simp only[ct] at h ⊢; exact⟨vB ho hn a h.1,vB ho hn b h.2.1,h.2.2⟩
 |.any,_=>trivial
 |.undef,_=>trivial
 |.fg,_=>trivial
 |.fj,_=>trivial
 |.di,_=>trivial
 |.int _ _,_=>trivial
 |.bool _,_=>trivial
 |.str _,_=>trivial
 |.list _ _,_=>trivial
 |.de _,_=>trivial
 |.own _ _,_=>trivial
 |.sl _ b _ _,h=>by simp only[ct] at h ⊢; omega
theorem vB {o o':Rt->Option (Nat × List AV)} {nb GP:Nat} (ho:∀p,(o p).isSome->o' p=o p) (hn:nb<=GP):∀cs,jX o nb cs->jX o' GP cs
 |[],_=>trivial
 |x::r,h=>⟨iL ho hn x h.1,vB ho hn r h.2⟩
end
theorem dY.putG (h:dY X φ w N s Ha t) {i:Nat} (hi:get s.env i=.any) (dX:N'.β=N.β) (hN:∀p,bq i p=false->N'.ν p=N.ν p) (hv:ct (aq s) s.H.length v) (rv:bD (Rd X φ w) φ (jW N' i v) v')
  (eG:∀p k xs,bq i p=true->aq ⟨put s.env i v,s.H⟩ p=some (k,xs)->qj Ha (N'.ν p) k xs/\∀ n,N'.ν p=some n->(∀q,(aq s q).isSome->N.ν q≠some n)/\(∀b,(aN s.H b).isSome->N.β b≠n)/\∀ q,bq i q=true->(aq ⟨put s.env i v,s.H⟩ q).isSome->N'.ν q=some n->q=p) :
  dY X φ w N' ⟨put s.env i v,s.H⟩ Ha (fun j=>if j=i then v' else t j):=by
 have FQ:∀{p},(aq s p).isSome->bq i p=false:=by
  intro p hp;cases e:bq i p with
  |false=>rfl
  |true=>rw[Se hi e] at hp; cases hp
 have mono:∀p,(aq s p).isSome->aq ⟨put s.env i v,s.H⟩ p=aq s p:=fun p hp=>nu hi (FQ hp);refine⟨fun j=>?_,fun j=>?_,h.heap,fun p k xs e=>?_,fun b cs e=>?_,fun p q n e1 e2 e3 e4=>?_,fun b p e1 e2 e3=>?_,fun b d e1 e2 e3=>?_⟩
 ·simp only[bz];by_cases hj:j=i
  ·subst hj; simp only[if_true]; exact rv
  ·simp only[if_neg hj];rw[Tb dX (hN _ (by simp[bq,hj])) (fun l=>hN _ (by simp[bq,hj])) (fun p hp=>hN p (FQ (h.du (r:=.s j) rfl p hp)))];exact h.env j
 ·simp only[bz];by_cases hj:j=i
  ·rw[if_pos hj]; exact iL mono (aG _) v hv
  ·rw[if_neg hj]; exact iL mono (aG _) _ (h.Cx j)
 ·cases hp:bq i p with
  |true=>exact (eG p k xs hp e).1
  |false=>rw[nu hi hp] at e; rw[hN p hp]; exact h.own p k xs e
 ·obtain⟨as,g1,g2,g3⟩:=h.box b cs e;refine⟨as,by rw[dX]; exact g1,g2,fun j c hc=>?_⟩;obtain⟨k1,a,k2,k3⟩:=g3 j c hc;refine⟨iL mono (aG _) c k1,a,k2,?_⟩;rw[Gh dX (fun _ _ _=>hN _ rfl) (fun p hp=>hN p (FQ (h.du (r:=.c b j) (by rw[v8 (s:=s) e]; exact hc) p hp)))];exact k3
 ·cases hp:bq i p with
  |true=>
    obtain⟨⟨k,xs⟩,e⟩:=aM.1 e1;obtain⟨_,h2⟩:=eG p k xs hp e;obtain⟨f1,f2,f3⟩:=h2 n e3;cases hq:bq i q with
    |true=>exact (f3 q hq e2 e4).symm
    |false=>rw[nu hi hq] at e2; rw[hN q hq] at e4; exact absurd e4 (f1 q e2)
  |false=>
    cases hq:bq i q with
    |true=>
      obtain⟨⟨k,xs⟩,e⟩:=aM.1 e2;obtain⟨_,h2⟩:=eG q k xs hq e;obtain⟨f1,f2,f3⟩:=h2 n e4;rw[nu hi hp] at e1;rw[hN p hp] at e3;exact absurd e3 (f1 p e1)
    |false=>
      rw[nu hi hp] at e1;rw[nu hi hq] at e2;rw[hN p hp] at e3;rw[hN q hq] at e4;exact h.inj p q n e1 e2 e3 e4
 ·rw[dX] at e3;cases hp:bq i p with
  |true=>
    obtain⟨⟨k,xs⟩,e⟩:=aM.1 e2;obtain⟨_,h2⟩:=eG p k xs hp e;exact (h2 _ e3).2.1 b e1 rfl
  |false=>rw[nu hi hp] at e2; rw[hN p hp] at e3; exact h.bx b p e1 e2 e3
 ·rw[dX] at e3; exact h.bi b d e1 e2 e3
theorem dP.quiet (h:dY X φ w N s Ha t) (hb:(∀b,b<base->N.β b=B b)/\base<=s.H.length) (hv:ct (aq s) s.H.length v) (he:EO v) (r:bD (Rd X φ w) φ (u7 N v) v'):dP X φ w B base s v t v':=by
 refine⟨⟨N,Ha,h,hb⟩,hv,fun i hi=>?_⟩
 have FQ:∀{p},(aq s p).isSome->bq i p=false:=by
  intro p hp;cases e:bq i p with
  |false=>rfl
  |true=>rw[Se hi e] at hp; cases hp
 obtain⟨N',dX,Z4,Yn⟩:∃N':Names,N'.β=N.β/\(∀p,bq i p=false->N'.ν p=N.ν p)/\∀ p,bq i p=true->N'.ν p=none:=⟨⟨N.β,fun p=>if bq i p then none else N.ν p⟩,rfl,fun p hp=>by simp[hp],fun p hp=>by simp[hp]⟩;have hvb:∀p∈aI v,N'.ν p=N.ν p:=fun p hp=>Z4 p (FQ (AH v hv p hp))
 have e1:jW N' i v=u7 N v:=by
  cases v<;>simp only[jW,u7,iJ]<;>try exact CZ dX hvb
  ·rename_i cs;congr 1;apply dq;intro j;rw[fy,n9];simp only[eS];cases hc:cs[j]? with
   |none=>rfl
   |some c=>
     simp only[bV];congr 1;have hcb:∀p∈aI c,N'.ν p=N.ν p:=fun p hp=>hvb p (by simp only[aI]; exact kC hc hp);cases c<;>simp only[iJ,fS]<;>try exact CZ dX hcb
     simp only[qI,Yn (.sc i j) (by simp[bq])]
  ·simp only[qI,Yn (.s i) (by simp[bq])]
 refine⟨N',Ha,h.putG hi dX Z4 hv (by rw[e1]; exact r) (fun p k xs hp e=>?_),fun b bY=>by rw[dX]; exact hb.1 b bY,hb.2⟩;rw[Yn p hp];refine⟨?_,fun n e=>by cases e⟩;have e':=bR.1 e;cases p with
 |s j=>
   simp only[bq,decide_eq_true_eq] at hp;subst hp;simp only[at_,bz,if_true,af] at e';rw[e'] at he;exact he
 |sc j l=>
   simp only[bq,decide_eq_true_eq] at hp;subst hp;simp only[at_,bz,if_true] at e';cases v<;>simp only[reduceCtorEq] at e'
   exact he l k xs e'
 |c b j=>simp[bq] at hp
theorem dP.fresh (h:dY X φ w N s Ha t) (hb:(∀b,b<base->N.β b=B b)/\base<=s.H.length) {k n:Nat} {xs:List AV} (ho:qj Ha (some n) k xs) (hf:∀q,(aq s q).isSome->N.ν q≠some n) (hx:∀b,(aN s.H b).isSome->N.β b≠n) (r:bD (Rd X φ w) φ (.sl k n 0 xs.length) v') :
  dP X φ w B base s (.own k xs) t v':=by
 refine⟨⟨N,Ha,h,hb⟩,trivial,fun i hi=>?_⟩
 obtain⟨N',dX,Z4,Yn⟩:∃N':Names,N'.β=N.β/\(∀p,bq i p=false->N'.ν p=N.ν p)/\N'.ν (.s i)=some n:=⟨⟨N.β,fun p=>if p=.s i then some n else N.ν p⟩,rfl,fun p hp=>by
  have:p≠.s i:=by rintro rfl; simp[bq] at hp
  simp[this],by simp⟩
 have only:∀p,bq i p=true->(aq ⟨Am.put s.env i (.own k xs),s.H⟩ p).isSome->p=.s i:=by
  intro p hp e;cases p with
  |s j=>simp only[bq,decide_eq_true_eq] at hp; rw[hp]
  |sc j l=>
    simp only[bq,decide_eq_true_eq] at hp;subst hp;unfold aq at e;simp[at_,bz] at e
  |c b j=>simp[bq] at hp
 refine⟨N',Ha,h.putG hi dX Z4 trivial (by simp only[jW,iJ,qI,Yn]; exact r) (fun p k' ys hp e=>?_),fun b bY=>by rw[dX]; exact hb.1 b bY,hb.2⟩;have uV:=only p hp (by rw[e]; rfl);subst uV;have e':=bR.1 e;simp only[at_,bz,if_true,af,AV.own.injEq] at e';obtain⟨rfl,rfl⟩:=e';rw[Yn];refine⟨ho,fun m hm=>?_⟩;cases hm;exact⟨hf,hx,fun q hq e _=>only q hq e⟩
theorem dY.nN {φ':cX} {w':World} {Ha':Heap} (h:dY X φ w N s Ha t) (a:eT φ w φ' w') (hh:bO X φ' w' Ha') (ho:∀p k xs,aq s p=some (k,xs)->qj Ha' (N.ν p) k xs) (hb:∀b,(aN s.H b).isSome->aN Ha' (N.β b)=aN Ha (N.β b)):dY X φ' w' N s Ha' t:=
 ⟨fun i=>a.rep (h.env i),h.Cx,hh,ho,fun b cs e=>by
  obtain⟨as,g1,g2,g3⟩:=h.box b cs e;exact⟨as,by rw[hb b (by rw[e]; rfl)]; exact g1,g2,g3⟩,h.inj,h.bx,h.bi⟩
theorem qj.same {H H':Heap} {o:Option Nat} {k:Nat} {xs:List AV} (h:qj H o k xs) (hb:∀n,o=some n->aN H' n=aN H n):qj H' o k xs:=by
 cases o with
 |none=>exact h
 |some n=>
   obtain⟨cs,h1,h2⟩:=h;exact⟨cs,by rw[hb n rfl]; exact h1,h2⟩
theorem qj.lt {H:Heap} {n k:Nat} {xs:List AV} (h:qj H (some n) k xs):n<H.length:=by
 obtain⟨cs,h1,_⟩:=h;exact dp h1
theorem dY.gU (h:dY X φ w N s Ha t) {p:Rt} (hp:(aq s p).isSome) {n:Nat} (hn:N.ν p=some n):n<Ha.length:=by
 obtain⟨⟨k,xs⟩,e⟩:=aM.1 hp;have:=h.own p k xs e;rw[hn] at this;exact this.lt
theorem dY.sd (h:dY X φ w N s Ha t) {b:Nat} (hb:(aN s.H b).isSome):N.β b<Ha.length:=by
 obtain⟨cs,e⟩:=aM.1 hb;obtain⟨as,g1,_⟩:=h.box b cs e;exact dp g1
theorem dY.push {φ':cX} {w':World} {cs:List AV} (h:dY X φ w N s Ha t) (a:eT φ w φ' w') (hh:bO X φ' w' (Ha++[some cs])):dY X φ' w' N s (Ha++[some cs]) t:=by
 refine h.nN a hh (fun p k xs e=>?_) (fun b hb=>?_)
 ·refine (h.own p k xs e).same fun n hn=>?_;rw[fG,if_neg];have:=h.gU (by rw[e]; rfl) hn;omega
 ·rw[fG,if_neg];have:=h.sd hb;omega
theorem Fb (H:Heap) (cs:List AV):aN (H++[some cs]) H.length=some cs:=by rw[fG,if_pos rfl]
end
end Go.Bm

/- Operations that make blocks and boxes. -/
namespace Go.Bm
open Go.Am
mutual
theorem wE {N N':Names} {o:Rt->Option (Nat × List AV)} {nb:Nat} (dX:∀b,b<nb->N'.β b=N.β b) (kM:∀p,(o p).isSome->N'.ν p=N.ν p):∀x,ct o nb x->cu N' x=cu N x
 |.du k p a l,h=>by simp only[ct] at h; obtain⟨xs,e,_⟩:=h; simp only[cu,kM p (by rw[e]; rfl)]
 |.eR k p a l,h=>by simp only[ct] at h; obtain⟨xs,e,_⟩:=h; simp only[cu,kM p (by rw[e]; rfl)]
 |.ptr b off,h=>by simp only[ct] at h; simp only[cu,dX b h]
 |.agg cs,h=>by simp only[ct] at h; simp only[cu,qw dX kM cs h]
 |.dA cs,h=>by simp only[ct] at h; simp only[cu,qw dX kM cs h]
 |.func f a b,h=>by simp only[ct] at h; simp only[cu,qw dX kM a h.1,qw dX kM b h.2.1]
 |.any,_=>rfl
 |.undef,_=>rfl
 |.fg,_=>rfl
 |.fj,_=>rfl
 |.di,_=>rfl
 |.int _ _,_=>rfl
 |.bool _,_=>rfl
 |.str _,_=>rfl
 |.list _ _,_=>rfl
 |.de _,_=>rfl
 |.own _ _,_=>rfl
 |.sl _ b _ _,h=>by simp only[ct] at h; simp only[cu,dX b h]
theorem qw {N N':Names} {o:Rt->Option (Nat × List AV)} {nb:Nat} (dX:∀b,b<nb->N'.β b=N.β b) (kM:∀p,(o p).isSome->N'.ν p=N.ν p):∀cs,jX o nb cs->kj N' cs=kj N cs
 |[],_=>rfl
 |x::r,h=>by simp only[kj,wE dX kM x h.1,qw dX kM r h.2]
end
theorem tu {N N':Names} {o:Rt->Option (Nat × List AV)} {nb:Nat} (dX:∀b,b<nb->N'.β b=N.β b) (kM:∀p,(o p).isSome->N'.ν p=N.ν p) {r:Rt} {x:AV} (hr:∀k xs,x=.own k xs->N'.ν r=N.ν r) (h:ct o nb x):iJ N' r x=iJ N r x:=by
 cases x<;>simp only[iJ]<;>first|exact wE dX kM _ h|skip
 rename_i k xs;simp only[qI,hr k xs rfl]
theorem xY {N N':Names} {o:Rt->Option (Nat × List AV)} {nb:Nat} (dX:∀b,b<nb->N'.β b=N.β b) (kM:∀p,(o p).isSome->N'.ν p=N.ν p) {i:Nat} {x:AV} (h1:N'.ν (.s i)=N.ν (.s i)) (h2:∀j,N'.ν (.sc i j)=N.ν (.sc i j)) (h:ct o nb x):jW N' i x=jW N i x:=by
 by_cases ha:∃cs,x=.agg cs
 ·obtain⟨cs,rfl⟩:=ha;simp only[jW];congr 1;apply dq;intro j;rw[fy,fy];simp only[eS];cases hc:cs[j]? with
  |none=>rfl
  |some c=>
    simp only[bV];simp only[ct] at h;rw[tu dX kM (fun _ _ _=>h2 j) (fK.1 h j c hc)]
 ·have hn:ja x:=fun cs e=>ha ⟨cs,e⟩;have e1:jW N' i x=iJ N' (.s i) x:=by cases x<;>first|rfl|exact absurd rfl (hn _)
  have e2:jW N i x=iJ N (.s i) x:=by cases x<;>first|rfl|exact absurd rfl (hn _)
  rw[e1,e2];exact tu dX kM (fun _ _ _=>h1) h
mutual
theorem kg (N:Names):∀x,pl x=true->cu N x=x
 |.agg cs,h=>by simp only[pl] at h; simp only[cu,CW N cs h]
 |.dA cs,h=>by simp only[pl] at h; simp only[cu,CW N cs h]
 |.func f a b,h=>by simp only[pl,ae] at h; simp only[cu,CW N a h.2.1,CW N b h.2.2]
 |.any,_=>rfl
 |.undef,_=>rfl
 |.fg,_=>rfl
 |.fj,_=>rfl
 |.di,_=>rfl
 |.int _ _,_=>rfl
 |.bool _,_=>rfl
 |.str _,_=>rfl
 |.list _ _,_=>rfl
 |.de _,_=>rfl
 |.own _ _,h=>by simp[pl] at h
 |.du _ _ _ _,h=>by simp[pl] at h
 |.eR _ _ _ _,h=>by simp[pl] at h
 |.ptr _ _,h=>by simp[pl] at h
 |.sl _ _ _ _,h=>by simp[pl] at h
theorem CW (N:Names):∀cs,eC cs=true->kj N cs=cs
 |[],_=>rfl
 |x::r,h=>by simp only[eC,ae] at h; simp only[kj,kg N x h.1,CW N r h.2]
end
theorem Rr (N:Names) {c:AV} (h:fz (gj c)=true) (he:∀k xs,c=.own k xs->xs=[]):Le (gj c) (fS N c):=by
 cases c<;>simp only[gj] at h ⊢<;>first
  | (have := (lI h).1
     simp only[fS];rw[kg N _ this];exact Le.refl _)
  |skip
 rename_i k xs;have:=he k xs rfl;subst this;exact Le.gj k
section
variable {P:Program} {X:Nat->Prop} {φ φ':cX} {w w':World} {N N':Names} {s s1:St} {Ha:Heap} {t:Nat->Value} {B:Nat->Nat} {base:Nat} {v:AV} {v':Value} {c:dM} {o:Oper} {a:Act}
theorem dY.Ir {zs as:List AV} (h:dY X φ w N s Ha t) (ad:eT φ w φ' w') (hh:bO X φ' w' (Ha++[some as])) (hz:jX (aq s) s.H.length zs) (he:Si zs) (has:as=gI N zs) :
  ∃ N',(∀b,b<s.H.length->N'.β b=N.β b)/\N'.β s.H.length=Ha.length/\dY X φ' w' N' ⟨s.env,s.H++[some zs]⟩ (Ha++[some as]) t:=by
 have h1:=h.push ad hh
 obtain⟨N',dX,WK,Z4,Yn⟩:∃N':Names,(∀b,b<s.H.length->N'.β b=N.β b)/\N'.β s.H.length=Ha.length/\(∀p,(∀j,p≠.c s.H.length j)->N'.ν p=N.ν p)/\∀ j,N'.ν (.c s.H.length j)=none:=
  ⟨⟨fun b=>if b=s.H.length then Ha.length else N.β b,fun p=>match p with
   |.c b j=>if b=s.H.length then none else N.ν (.c b j)
   |p=>N.ν p⟩,fun b hb=>by simp; omega,by simp,fun p hp=>by
     cases p with
     |s i=>rfl
     |sc i j=>rfl
     |c b j=>
       have:b≠s.H.length:=fun e=>hp j (by rw[e]);simp[this],fun j=>by simp⟩
 have atq:∀q,(∀j,q≠.c s.H.length j)->at_ ⟨s.env,s.H++[some zs]⟩ q=at_ s q:=by
  intro q hq;cases q with
  |s i=>rfl
  |sc i j=>rfl
  |c b j=>
    have:b≠s.H.length:=fun e=>hq j (by rw[e]);simp only[at_,fG,if_neg this]
 have atn:∀j,at_ ⟨s.env,s.H++[some zs]⟩ (.c s.H.length j)=zs[j]?:=fun j=>by simp only[at_,fG,if_true]
 have FQ:∀{q},(aq s q).isSome->∀j,q≠.c s.H.length j:=by
  rintro q hq j rfl;unfold aq at hq
  have:aN s.H s.H.length=none:=by
   cases e:aN s.H s.H.length with
   |none=>rfl
   |some cs=>have:=dp e; omega
  simp[at_,this] at hq
 have mono:∀p,(aq s p).isSome->aq ⟨s.env,s.H++[some zs]⟩ p=aq s p:=fun p hp=>gJ (atq p (FQ hp));have kM:∀p,(aq s p).isSome->N'.ν p=N.ν p:=fun p hp=>Z4 p (FQ hp);have hlen:s.H.length<=(s.H++[some zs]).length:=by simp
 have abW:∀{q k xs},aq ⟨s.env,s.H++[some zs]⟩ q=some (k,xs)->(aq s q=some (k,xs))\/((∃j,q=.c s.H.length j)/\xs=[]):=by
  intro q k xs e;by_cases hq:∃j,q=.c s.H.length j
  ·obtain⟨j,rfl⟩:=hq;have e':=bR.1 e;rw[atn] at e';exact .inr ⟨⟨j,rfl⟩,he j k xs e'⟩
  ·rw[gJ (atq q fun j e=>hq ⟨j,e⟩)] at e;exact .inl e
 have C2:∀{q n},(aq ⟨s.env,s.H++[some zs]⟩ q).isSome->N'.ν q=some n->(aq s q).isSome/\N.ν q=some n:=by
  intro q n hq hn;obtain⟨⟨k,xs⟩,e⟩:=aM.1 hq;rcases abW e with e1|⟨⟨j,rfl⟩,_⟩
  ·have:(aq s q).isSome:=by rw[e1]; rfl
   exact⟨this,by rw[<-kM q this]; exact hn⟩
  ·rw[Yn] at hn; cases hn
 have bold:∀{b},(aN (s.H++[some zs]) b).isSome->(b<s.H.length/\(aN s.H b).isSome)\/b=s.H.length:=by
  intro b hb;rw[fG] at hb;by_cases e:b=s.H.length
  ·exact .inr e
  ·rw[if_neg e] at hb;obtain⟨cs,e2⟩:=aM.1 hb;exact .inl ⟨dp e2,hb⟩
 refine⟨N',dX,WK,⟨fun i=>?_,fun i=>iL mono hlen _ (h1.Cx i),hh,fun p k xs e=>?_,fun b cs e=>?_,fun p q n e1 e2 e3 e4=>?_,fun b p e1 e2 e3=>?_,fun b d e1 e2 e3=>?_⟩⟩
 ·rw[xY dX kM (Z4 _ (fun j e=>by cases e)) (fun l=>Z4 _ (fun j e=>by cases e)) (h1.Cx i)];exact h1.env i
 ·rcases abW e with e1|⟨⟨j,rfl⟩,rfl⟩
  ·rw[kM p (by rw[e1]; rfl)]; exact h1.own p k xs e1
  ·rw[Yn]; rfl
 ·by_cases hb:b=s.H.length
  ·subst hb;simp only[fG,if_true,af] at e;subst e;refine⟨as,by rw[WK]; exact Fb _ _,by rw[has,iv],fun j x hx=>⟨iL mono hlen x (fK.1 hz j x hx),fS N x,by rw[has,n9,hx]; rfl,?_⟩⟩;have hxk:=fK.1 hz j x hx;cases x<;>simp only[iJ,fS]<;>try (rw[wE dX kM _ hxk]; exact Le.refl _)
   simp only[qI,Yn];exact Le.refl _
  ·simp only[fG,if_neg hb] at e;obtain⟨as',g1,g2,g3⟩:=h1.box b cs e;refine⟨as',by rw[dX b (dp e)]; exact g1,g2,fun j x hx=>?_⟩;obtain⟨k1,a',k2,k3⟩:=g3 j x hx;refine⟨iL mono hlen x k1,a',k2,?_⟩;rw[tu dX kM (fun _ _ _=>Z4 _ (fun l e=>by cases e; exact hb rfl)) k1];exact k3
 ·obtain⟨p1,p2⟩:=C2 e1 e3;obtain⟨q1,q2⟩:=C2 e2 e4;exact h1.inj p q n p1 q1 p2 q2
 ·obtain⟨p1,p2⟩:=C2 e2 e3;rcases bold e1 with⟨b1,b2⟩|b1
  ·rw[dX b b1] at p2; exact h1.bx b p b2 p1 p2
  ·subst b1;rw[WK] at p2;have:=h.gU p1 p2;omega
 ·rcases bold e1 with⟨b1,b2⟩|b1<;>rcases bold e2 with⟨d1,d2⟩|d1
  ·rw[dX b b1,dX d d1] at e3; exact h1.bi b d b2 d2 e3
  ·subst d1; rw[dX b b1,WK] at e3; have:=h.sd b2; omega
  ·subst b1; rw[dX d d1,WK] at e3; have:=h.sd d2; omega
  ·rw[b1,d1]
def tm (a:Act):Nat->Value:=fun i=>a.tmps.getD i undef
def kG (P:Program) (X:Nat->Prop) (φ:cX) (w:World) (B:Nat->Nat) (base:Nat) (s1:St) (v:AV) (o:Oper) (a:Act):Prop:=
 ∀ (K:Act->World->Prop) (Q:Exit->Act->World->Prop),(∀v' w' φ',dP X φ' w' B base s1 v (tm a) v'->eT φ w φ' w'->K (a.put o.dst v') w')->o.wp P a w K Q
theorem kG.ghost (ad:eT φ w φ' w) (h:kG P X φ' w B base s1 v o a):kG P X φ w B base s1 v o a:=fun K Q hK=>h K Q fun v' w' pe hp k=>hK v' w' pe hp (ad.trans k)
theorem kG.of {va:AV} {Ha':Heap} (h:Ok P X φ w o a va Ha') (hp:∀v' w' φ',bD (Rd X φ' w') φ' va v'->bO X φ' w' Ha'->eT φ w φ' w'->dP X φ' w' B base s1 v (tm a) v'):kG P X φ w B base s1 v o a:=
 fun K Q hK=>h K Q fun v' w' φ' r hh ad=>hK v' w' φ' (hp v' w' φ' r hh ad) ad
def ga (c:dM):Am.dM:=⟨fun _=>none,c.gl,fun _=>none⟩
theorem ad7 (hm:P.follows .mixedOrders=true) (c:dM):Am.Mw P (ga c):=⟨hm,fun f m q h=>by cases h⟩
def noC:Nat->List AV->Heap->Option (AV × Heap):=fun _ _ _=>none
theorem XL (c:dM):Am.Bu P (ga c) noC:=fun f m q h=>by cases h
end
end Go.Bm

/- Operations that read, and that make blocks and boxes: from the model. -/
namespace Go.Bm
open Go.Am
theorem jU:∀(a b:List AV),az (a++b)=az a++az b
 |[],b=>rfl
 |x::r,b=>by simp[az,jU r b]
theorem LV (k:Nat):∀(n:Nat) (ys:List AV),n*k<=ys.length->az (IU k n ys)=ys.take (n*k)
 |0,ys,_=>by simp[IU,az]
 |n+1,ys,h=>by
   have h':n*k+k<=ys.length:=by rw[cj] at h; omega
   simp only[IU,az,tc];rw[LV k n (ys.drop k) (by rw[dR]; omega),cj,Nat.one_mul,Nat.add_comm,List.take_add]
theorem LU (e:AV):∀n,az (aV n e)=rep e.cells n
 |0=>rfl
 |n+1=>by simp[List.replicate_succ,az,rep,LU e n]
theorem tw (f:AV->AV) (zs:List AV):∀n,rep (zs.map f) n=(rep zs n).map f
 |0=>rfl
 |n+1=>by simp[rep,tw f zs n]
theorem H5 (zs:List AV):∀n,(rep zs n).length=n*zs.length
 |0=>by simp[rep]
 |n+1=>by simp[rep,H5 zs n,cj]; omega
theorem wK {zs:List AV} {x:AV}:∀{n:Nat},x∈rep zs n->x∈zs
 |0,h=>by simp[rep] at h
 |n+1,h=>by
   simp only[rep,aC] at h;rcases h with h|h
   ·exact h
   ·exact wK h
theorem nQ:∀{cs:List AV},IY cs=true->∀x∈cs,fz x=true
 |[],_,x,hx=>by simp at hx
 |y::r,h,x,hx=>by
   simp only[IY,ae] at h;rcases aK.1 hx with e|e
   ·subst e; exact h.1
   ·exact nQ h.2 x e
theorem Cz {o:Rt->Option (Nat × List AV)} {nb:Nat}:∀{cs:List AV},jX o nb cs->∀x∈cs,ct o nb x
 |[],_,x,hx=>by simp at hx
 |y::r,h,x,hx=>by
   rcases aK.1 hx with e|e
   ·subst e; exact h.1
   ·exact Cz h.2 x e
theorem yp {o:Rt->Option (Nat × List AV)} {nb:Nat}:∀{cs:List AV},(∀x∈cs,ct o nb x)->jX o nb cs
 |[],_=>trivial
 |y::r,h=>⟨h y (by simp),yp fun x hx=>h x (by simp[hx])⟩
theorem Hw:∀{vs:List Value} {xs:List AV},qU vs xs=true->xs.length=vs.length
 |[],[],_=>rfl
 |[],_::_,h=>by simp[qU] at h
 |_::_,[],h=>by simp[qU] at h
 |v::r,x::s,h=>by simp only[qU,ae] at h; simp[Hw h.2]
theorem aaX:∀{zs:List AV},mW (tQ zs)=true->bm (tQ zs)=true->∀z∈zs,fz (gj z)=true
 |[],_,_,z,hz=>by simp at hz
 |x::r,h1,h2,z,hz=>by
   simp only[tQ,mW,bm,ae] at h1 h2;rcases aK.1 hz with e|e
   ·subst e;rcases dn_c (zR h1.1) with⟨k,rfl,e⟩|⟨hc,e⟩
    ·rfl
    ·rw[e] at h1 h2;have h1':=h1.1;have NX:=h2.1;cases z<;>first|rfl|(simp[yG] at h1'; done)|(simp[AV.leaf] at NX; done)
   ·exact aaX h1.2 h2.2 z e
theorem UY {R:Addr->Value->Prop} {φ:cX} {x:AV} {v:Value} (h:bD R φ x v):φ=[]->pl x=true:=by
 have all:∀{cs:List AV} {vs:Array Value},cs.length=vs.size->(∀(i:Nat) (c:AV) (v:Value),cs[i]?=some c->vs[i]?=some v->pl c=true)->eC cs=true:=by
  intro cs
  induction cs with
  |nil=>intro vs _ _; rfl
  |cons x r ih=>
    intro vs hl h;simp only[eC,ae];obtain⟨u,hu⟩:=bP (l:=vs) (i:=0) (by simp at hl; omega);refine⟨h 0 x u rfl hu,ih (vs:=vs.extract 1 vs.size) (by simp at hl ⊢; omega) fun i c v hc hv=>?_⟩;refine h (i+1) c v (by simpa using hc) ?_;rw[Array.getElem?_extract] at hv;split at hv
    ·rwa [Nat.add_comm] at hv
    ·cases hv
 induction h with
 |agg φ cs vs hl h ih=>intro e; simp only[pl]; exact all hl fun i c v h1 h2=>ih i c v h1 h2 e
 |dA φ cs vs hl h ih=>intro e; simp only[pl]; exact all hl fun i c v h1 h2=>ih i c v h1 h2 e
 |yw φ b a hb ho=>intro e; subst e; simp at hb
 |func φ f as va bs vb hy yL yK ha hb WJ TD=>intro e; simp only[pl,ae,Bool.not_eq_true']; exact⟨hy,all yL fun i c v h1 h2=>WJ i c v h1 h2 e,all yK fun i c v h1 h2=>TD i c v h1 h2 e⟩
 |ptr φ b off a hb h=>intro e; subst e; simp at hb
 |sl φ k b off len a cap hb hc h=>intro e; subst e; simp at hb
 |_=>intro _; rfl
mutual
theorem uE {o:Rt->Option (Nat × List AV)} {nb:Nat}:∀x,pl x=true->ct o nb x
 |.agg cs,h=>by simp only[pl] at h; exact DS cs h
 |.dA cs,h=>by simp only[pl] at h; exact DS cs h
 |.func f a b,h=>by simp only[pl,ae] at h; exact⟨DS a h.2.1,DS b h.2.2,fun hy=>by rw[hy] at h; exact absurd h.1 (by simp)⟩
 |.any,_=>trivial
 |.undef,_=>trivial
 |.fg,_=>trivial
 |.fj,_=>trivial
 |.di,_=>trivial
 |.int _ _,_=>trivial
 |.bool _,_=>trivial
 |.str _,_=>trivial
 |.list _ _,_=>trivial
 |.de _,_=>trivial
 |.own _ _,h=>by simp[pl] at h
 |.du _ _ _ _,h=>by simp[pl] at h
 |.eR _ _ _ _,h=>by simp[pl] at h
 |.ptr _ _,h=>by simp[pl] at h
 |.sl _ _ _ _,h=>by simp[pl] at h
theorem DS {o:Rt->Option (Nat × List AV)} {nb:Nat}:∀cs,eC cs=true->jX o nb cs
 |[],_=>trivial
 |x::r,h=>by simp only[eC,ae] at h; exact⟨uE x h.1,DS r h.2⟩
end
theorem yO:∀{ds:List AV},bF ds=false->∀(j k:Nat) (xs:List AV),ds[j]?≠some (.own k xs)
 |[],_,j,k,xs,e=>by simp at e
 |y::r,h,j,k,xs,e=>by
   cases j with
   |zero=>simp at e; subst e; simp[bF] at h
   |succ j=>exact yO (ds:=r) (by cases y<;>simp[bF] at h<;>exact h) j k xs (by simpa using e)
theorem lG {x:AV} (h:bH x=false):EO x:=by
 cases x<;>simp only[EO]<;>try (simp[bH] at h; done)
 exact fun j k xs e=>absurd e (yO h j k xs)
theorem U7 {ag:Option Nat} {xs ys:List AV} {x:AV} (h:AA ag xs=some x) (hl:xs.length<=ys.length) (hle:∀(i:Nat) (a b:AV),xs[i]?=some a->ys[i]?=some b->Le a b):∃y,AA ag ys=some y/\Le x y:=by
 unfold AA at h ⊢;cases ag with
 |some k=>
   simp only at h ⊢;split at h
   case isFalse=>cases h
   rename_i hk;simp at h;subst h;rw[if_pos (by omega)];refine⟨_,rfl,Le.agg (by simp; omega) fun i a b ha hb=>?_⟩;rw[bC] at ha hb;split at ha
   ·rename_i hi;rw[if_pos hi] at hb;exact hle i a b ha hb
   ·cases ha
 |none=>
   simp only at h ⊢;cases xs with
   |nil=>cases h
   |cons a r=>
     simp at h;subst h;cases ys with
     |nil=>simp at hl
     |cons b r'=>exact⟨b,rfl,hle 0 a b rfl rfl⟩
section
variable {P:Program} {X:Nat->Prop} {φ φ':cX} {w w':World} {N N':Names} {s s1:St} {Ha Ha':Heap} {t:Nat->Value} {B:Nat->Nat} {base:Nat} {v va:AV} {v':Value} {c:dM} {o:Oper} {a:Act} {kd:Kd}
theorem L4 {t:TypeId} {k:Nat} {zs:List AV} (h1:ik P t k=true) (h2:gN P t zs=true):zs.length=k/\mW zs=true/\bm zs=true:=by
 obtain⟨e,i,z,hu,hi,tr,ZW,Z2,LC,MD⟩:=iw h1;unfold gN at h2;rw[hu] at h2;simp only at h2;refine⟨?_,(sy h2).1,(sy h2).2⟩;unfold pf at h2;rw[hi] at h2;simp only[LC,ae] at h2;have:=Hw h2.1;rw[this];simpa using MD
theorem kD (hm:P.follows .mixedOrders=true) (h:dY X φ w N s Ha (tm a)) (hg:Am.dD (ga c) X φ w) (hk:cG P o.op kd=true) {fl:Fp} (hs:fi (ga c) noC (ze N s.env) Ha kd=some (va,Ha',fl)):Ok P X φ w o a va Ha':=
 afk (ad7 hm c) (XL c) (fun i=>by rw[mF]; exact h.env i) hg h.heap hk hs
theorem Q3 (hm:P.follows .mixedOrders=true) (h:SB X φ w B base s (tm a)) (hg:Am.dD (ga c) X φ w) (hk:cG P o.op (kz kd)=true) (hs:Nt c s.env kd=some v):kG P X φ w B base s v o a:=by
 obtain⟨N,Ha,h,hb⟩:=h;obtain⟨h1,h2,h3⟩:=acO (cA:=ga c) (call:=noC) h rfl hk hs;refine kG.of (kD hm h hg hk h1) fun v' w' φ' r hh ad=>?_;exact dP.quiet (h.nN ad hh h.own (fun _ _=>rfl)) hb h2 h3 r
theorem Nu (hm:P.follows .mixedOrders=true) (h:SB X φ w B base s (tm a)) (hg:Am.dD (ga c) X φ w) {zs:List AV} (hk:cG P o.op (kz (.new zs))=true):kG P X φ w B base ⟨s.env,s.H++[some zs]⟩ (.ptr s.H.length 0) o a:=by
 obtain⟨N,Ha,h,hb,hl⟩:=h;obtain⟨t,ht⟩:=aas hk;obtain⟨e1,e2⟩:=Ae N (sy ht).1;refine kG.of (kD hm h hg hk (by simp only[kz,fi]; rfl)) fun v' w' φ' r hh ad=>?_;obtain⟨N',n1,n2,h'⟩:=h.Ir ad hh (zy (sy ht).1) e2 e1;refine dP.quiet h' ⟨fun b bY=>by rw[n1 b (by omega)]; exact hb b bY,by simp; omega⟩ (by simp[ct]) trivial ?_;simp only[u7,cu,n2];exact r
theorem Zc (hm:P.follows .mixedOrders=true) (h:SB X φ w B base s (tm a)) (hg:Am.dD (ga c) X φ w) {x:E} (hk:cG P o.op (kz (.box x))=true) (wZ:bm (aR c s.env x).cells=true):kG P X φ w B base ⟨s.env,s.H++[some (aR c s.env x).cells]⟩ (.ptr s.H.length 0) o a:=by
 obtain⟨N,Ha,h,hb,hl⟩:=h;obtain⟨o',ho⟩:=aaF hk;have hx:=cc (c:=c) (cA:=ga c) h rfl ho;have hc:=E5 N hx.na;refine kG.of (kD hm h hg hk (by simp only[kz,fi,hx.ev,hc,tW h wZ (vw hx.ok),if_true]; rfl)) fun v' w' φ' r hh ad=>?_;obtain⟨N',n1,n2,h'⟩:=h.Ir ad hh (vw hx.ok) hx.Si rfl;refine dP.quiet h' ⟨fun b bY=>by rw[n1 b (by omega)]; exact hb b bY,by simp; omega⟩ (by simp[ct]) trivial ?_;simp only[u7,cu,n2];exact r
theorem zZ (h:dY X φ w N s Ha t) (hb:(∀b,b<base->N.β b=B b)/\base<=s.H.length) (ad:eT φ w φ' w') {cs:List AV} (hh:bO X φ' w' (Ha++[some cs])) {k:Nat} {xs:List AV} (hlen:xs.length*k<=cs.length) (hk:∀x∈xs,x.cells.length=k)
  (hc:∀(i:Nat) (d:AV),(az xs)[i]?=some d->fz d=true/\∃ e,cs[i]?=some e/\e.leaf=true/\Le d e) (r:bD (Rd X φ' w') φ' (.sl k Ha.length 0 xs.length) v'):dP X φ' w' B base s (.own k xs) t v':=by
 refine dP.fresh (h.push ad hh) hb (n:=Ha.length) ⟨cs,Fb _ _,hlen,hk,hc⟩ (fun q hq e=>?_) (fun b hb e=>?_) r
 ·have:=h.gU hq e; omega
 ·have:=h.sd hb; omega
theorem Nx (hm:P.follows .mixedOrders=true) (h:SB X φ w B base s (tm a)) (hg:Am.dD (ga c) X φ w) {k n:Nat} {zs cs:List AV} {ps:List (Nat × Nat × E)} (hk:cG P o.op (kz (.eL k n zs ps))=true) (hf:qb c s.env (rep zs n) ps=some cs) (hz:IY (cs.map gj)=true) :
  kG P X φ w B base s (.own k (IU k n (cs.map gj))) o a:=by
 obtain⟨N,Ha,h,hb⟩:=h;obtain⟨⟨t,ht1,ht2⟩,hq⟩:=Oy hk;obtain⟨z1,z2,z3⟩:=L4 ht1 ht2;obtain⟨e1,e2⟩:=Ae N z2;have EA:rep (tQ zs) n=gI N (rep zs n):=by rw[e1,sA,sA,tw]
 have A9:zs.length=k:=by rw[<-z1,e1,iv]
 have hzok:jX (aq s) s.H.length (rep zs n):=yp fun x hx=>Cz (zy z2) x (wK hx)
 have hzeo:Si (rep zs n):=fun j k' xs hj=>by
  obtain⟨i,hi⟩:=bt (wK (aU hj));exact e2 i k' xs hi
 obtain⟨f1,f2,f3,f4⟩:=rN (cA:=ga c) h rfl hq hzok hzeo hf;have Ju:cs.length=n*k:=by rw[f4,H5,A9]
 have wZ:bm cs=true:=by
  have:∀{l:List AV},(∀x∈l,x.leaf=true)->bm l=true:=by
   intro l
   induction l with
   |nil=>intro _; rfl
   |cons y r ih=>intro h; simp only[bm,ae]; exact⟨h y (by simp),ih fun x hx=>h x (by simp[hx])⟩
  refine this fun x hx=>?_;have:=(lI (nQ hz (gj x) (qu hx))).2;cases x<;>first|exact this|rfl
 have afE:∀x∈cs,x.leaf=true:=fun x hx=>by
  have:=(lI (nQ hz (gj x) (qu hx))).2;cases x<;>first|exact this|rfl
 refine kG.of (kD hm h hg hk (by simp only[kz,fi,EA,f1,tW h wZ f2,if_true]; rfl)) fun v' w' φ' r hh ad=>?_;obtain⟨g1,g2⟩:=EF k n (cs.map gj) (by simp[Ju]);refine zZ h hb ad hh (by rw[g1,iv,Ju]; omega) (fun x hx=>?_) (fun i d hd=>?_) (by rw[g1]; exact r)
 ·obtain⟨i,hi⟩:=bt hx;obtain⟨q1,q2⟩:=g2 i x hi;rw[q1,bg,dR,cS,Ju];have:(i+1)*k<=n*k:=bK k q2;rw[cj] at this;omega
 ·rw[LV k n _ (by simp[Ju]),<-Ju,show (cs.map gj).take cs.length=cs.map gj from List.take_of_length_le (by simp),cF] at hd;cases hc:cs[i]? with
  |none=>rw[hc] at hd; cases hd
  |some x=>
    rw[hc] at hd;simp at hd;subst hd;have Cm:=nQ hz (gj x) (qu (aU hc));exact⟨Cm,fS N x,by rw[n9,hc]; rfl,Iw h (afE x (aU hc)) (Cz f2 x (aU hc)),Rr N Cm (fun k xs e=>f3 i k xs (by rw[hc,e]))⟩
theorem Y7 (hm:P.follows .mixedOrders=true) (h:SB X φ w B base s (tm a)) (hg:Am.dD (ga c) X φ w) {k:Nat} {zs:List AV} {x y:E} {k1 k2:IntKind} {l cp:Int} (hk:cG P o.op (kz (.Jq k zs x y))=true) (hx:aR c s.env x=.int k1 l) (hy:aR c s.env y=.int k2 cp) (hc:0<=l/\l<=cp/\cp<=(p7:Int)) :
  kG P X φ w B base s (.own k (aV l.toNat (el (zs.map gj)))) o a:=by
 obtain⟨N,Ha,h,hb⟩:=h;obtain⟨⟨t,ht1,ht2⟩,⟨o1,h1⟩,o2,h2⟩:=R0 hk;obtain⟨z1,z2,z3⟩:=L4 ht1 ht2;obtain⟨e1,e2⟩:=Ae N z2;have A9:zs.length=k:=by rw[<-z1,e1,iv]
 have FU:=(cc (c:=c) (cA:=ga c) h rfl h1).int hx;have Ey:=(cc (c:=c) (cA:=ga c) h rfl h2).int hy;refine kG.of (kD hm h hg hk (by simp only[kz,fi,FU,Ey,if_pos hc]; rfl)) fun v' w' φ' r hh ad=>?_;refine zZ h hb ad hh (by rw[cJ,H5,z1]; omega) (fun u hu=>?_) (fun i d hd=>?_) (by rw[cJ]; exact r)
 ·rw[List.eq_of_mem_replicate hu,tc,cS,A9]
 ·rw[LU,tc,tw,cF] at hd;cases hc':(rep zs l.toNat)[i]? with
  |none=>rw[hc'] at hd; cases hd
  |some z=>
    rw[hc'] at hd;simp at hd;subst hd;have WX:=wK (aU hc');obtain⟨j,hj⟩:=bt WX;have heo:∀k xs,z=.own k xs->xs=[]:=fun k xs e=>e2 j k xs (by rw[hj,e]);have Cm:fz (gj z)=true:=aaX z2 z3 z WX
    have wZ:(fS N z).leaf=true:=by
     have NP:fS N z∈tQ zs:=by rw[e1,sA]; exact qu WX
     have:∀{l:List AV},bm l=true->∀x∈l,x.leaf=true:=by
      intro l
      induction l with
      |nil=>intro _ x hx; simp at hx
      |cons y r ih=>
        intro q x hx;simp only[bm,ae] at q;rcases aK.1 hx with e|e
        ·subst e; exact q.1
        ·exact ih q.2 x e
     exact this z3 _ NP
    exact⟨Cm,fS N z,by rw[e1]; rw[sA,tw,cF,hc']; rfl,wZ,Rr N Cm heo⟩
theorem aaL {zs z:List AV} (h:Uf zs=some z):tQ zs=[.di]/\∃ k,z=[.own k []]:=by
 unfold Uf at h;split at h
 case h_2=>cases h
 rename_i k;split at h
 case isFalse=>cases h
 simp at h;exact⟨rfl,_,h.symm⟩
theorem Y6 (hm:P.follows .mixedOrders=true) (h:SB X φ w B base s (tm a)) (hg:Am.dD (ga c) X φ w) {k:Nat} {zs z:List AV} {x y:E} {k1 k2:IntKind} {l cp:Int} (hk:cG P o.op (kz (.Jq k zs x y))=true) (hz:Uf zs=some z) (hx:aR c s.env x=.int k1 l) (hy:aR c s.env y=.int k2 cp) (hc:0<=l/\l<=cp/\cp<=(p7:Int)) :
  kG P X φ w B base ⟨s.env,s.H++[some (rep z l.toNat)]⟩ (.sl k s.H.length 0 l.toNat) o a:=by
 obtain⟨N,Ha,h,hb,hl⟩:=h;obtain⟨_,⟨o1,h1⟩,o2,h2⟩:=R0 hk;obtain⟨e1,k',rfl⟩:=aaL hz;have FU:=(cc (c:=c) (cA:=ga c) h rfl h1).int hx;have Ey:=(cc (c:=c) (cA:=ga c) h rfl h2).int hy;refine kG.of (kD hm h hg hk (by simp only[kz,fi,FU,Ey,if_pos hc]; rfl)) fun v' w' φ' r hh ad=>?_
 obtain⟨N',n1,n2,h'⟩:=h.Ir (zs:=rep [.own k' []] l.toNat) ad hh (yp fun u hu=>by
  have:=wK hu;simp at this;subst this;exact trivial) (fun j kk xs hj=>by
  have:=wK (aU hj);simp at this;exact this.2) (by rw[e1,sA,<-tw]; rfl)
 refine dP.quiet h' ⟨fun b bY=>by rw[n1 b (by omega)]; exact hb b bY,by simp; omega⟩ (by simp[ct]) trivial ?_;simp only[u7,cu,n2];exact r
theorem abV (h:dY X φ w N s Ha (tm a)) (hg:Am.dD (ga c) X φ w) {ag:Option Nat} {x:E} {ps:List Rt} {o':Operand} (ho:cH o' (kO x)=true) (hs:ym s ag (aR c s.env x)=some (v,ps)) :
  ∃ va fl,fi (ga c) noC (ze N s.env) Ha (kz (.ld ag x))=some (va,Ha,fl)/\Le (u7 N v) va/\ct (aq s) s.H.length v/\EO v:=by
 have hx:=cc (c:=c) (cA:=ga c) h rfl ho;have cW:=hx.ok
 have fin:∀{va:AV} {fl:Fp},fi (ga c) noC (ze N s.env) Ha (kz (.ld ag x))=some (va,Ha,fl)->Le (u7 N v) va->ct (aq s) s.H.length v->EO v->∃va fl,fi (ga c) noC (ze N s.env) Ha (kz (.ld ag x))=some (va,Ha,fl)/\Le (u7 N v) va/\ct (aq s) s.H.length v/\EO v:=
  fun e hle h2 h3=>⟨_,_,e,hle,h2,h3⟩
 have rdn:∀{cs:List AV},H7 ag cs=some v->AA ag cs=some v/\bH v=false:=by
  intro cs hu;unfold H7 at hu;split at hu
  case h_2=>cases hu
  rename_i u' hr;split at hu
  ·cases hu
  rename_i gV;simp at hu gV;subst hu;exact⟨hr,gV⟩
 have plrd:∀{cs:List AV},AA ag cs=some v->(∀x∈cs,pl x=true)->pl v=true:=by
  intro cs hr hp;unfold AA at hr;cases ag with
  |some k=>
    simp only at hr;split at hr
    case isFalse=>cases hr
    simp at hr;subst hr;simp only[pl]
    have:∀{l:List AV},(∀x∈l,pl x=true)->eC l=true:=by
     intro l
     induction l with
     |nil=>intro _; rfl
     |cons y r ih=>intro h; simp only[eC,ae]; exact⟨h y (by simp),ih fun x hx=>h x (by simp[hx])⟩
    exact this fun x hx=>hp x (cP hx)
  |none=>
    simp only at hr;cases cs with
    |nil=>cases hr
    |cons y r=>simp at hr; subst hr; exact hp y (by simp)
 unfold ym at hs;cases e:aR c s.env x<;>rw[e] at hs cW<;>try (simp at hs; done)
 ·rename_i cs;simp only at hs;split at hs
  case h_2=>cases hs
  rename_i u hu;simp at hs;obtain⟨rfl,rfl⟩:=hs;obtain⟨hr,gV⟩:=rdn hu;have r:=bL (c:=ga c) (env:=ze N s.env) (a:=a) (fun i=>by rw[mF]; exact h.env i) hg ho;rw[hx.ev,e] at r;simp only[fS,cu] at r
  have mX:∀y∈cs,pl y=true:=by
   intro y hy;obtain⟨j,hj⟩:=bt hy;generalize a.eval o'=z at r;cases r with
   |de _ _ _ u hu h=>exact UY (h j y hj) rfl
  have hv:=plrd hr mX;refine fin (va:=u) (by simp only[kz,fi,hx.ev,e,fS,cu,hr]; rfl) ?_ (uE _ hv) (lG gV);rw[kJ N gV,kg N _ hv];exact Le.refl _
 ·rename_i b off;simp only at hs;split at hs
  case h_2=>cases hs
  rename_i cs dB;split at hs
  case h_2=>cases hs
  rename_i u hu;simp at hs;obtain⟨rfl,rfl⟩:=hs;obtain⟨hr,gV⟩:=rdn hu;obtain⟨as,g1,g2,g3⟩:=h.box b cs dB
  have hokL:jX (aq s) s.H.length (er (.c b) 0 cs):=by
   refine fK.2 fun j d hd=>?_;rw[AY] at hd;cases hc:cs[j]? with
   |none=>rw[hc] at hd; cases hd
   |some d0=>
     rw[hc] at hd;simp only[bV,af,eS] at hd;subst hd;split
     ·rename_i k xs;simp only[ct];exact⟨xs,bR.2 (by rw[v8 dB]; exact hc),by omega⟩
     ·exact (g3 j _ hc).1
  obtain⟨r1,r2,r3,_⟩:=Nk N hu (zC (n:=off) hokL);rw[<-C0,CY] at r1
  obtain⟨va,q1,q2⟩:=U7 (ys:=as.drop off) r1 (by simp[fN]; omega) (fun i x y hx hy=>by
   rw[aO,fy] at hx;rw[aO] at hy;simp only[eS] at hx;cases hc:cs[off+i]? with
   |none=>rw[hc] at hx; cases hx
   |some d=>
     rw[hc] at hx;simp at hx;subst hx;obtain⟨_,a',a1,a2⟩:=g3 _ d hc;rw[a1] at hy;cases hy;exact a2)
  exact fin (va:=va) (by simp only[kz,fi,hx.ev,e,fS,cu,g1,q1]; rfl) q2 r2 r3
 ·rename_i k p i off;simp only at hs;split at hs
  case h_2=>cases hs
  rename_i k' xs hp;split at hs
  case isFalse=>cases hs
  rename_i tq;subst tq;split at hs
  case h_2=>cases hs
  rename_i el' hel;split at hs
  case h_2=>cases hs
  rename_i u hu;simp at hs;obtain⟨rfl,rfl⟩:=hs;obtain⟨hr,gV⟩:=rdn hu;obtain⟨n,hn,e2⟩:=DG h cW;have eG:=h.own p k' xs hp;rw[hn] at eG;obtain⟨cs,c1,c2,c3,c4⟩:=eG;have mY:∀(j:Nat) (d:AV),el'.cells[j]?=some d->fz d=true/\∃ a,cs[i*k'+j]?=some a/\Le d a:=fun j d hd=>let ⟨f1,a,f2,_,f3⟩:=c4 _ d (z6 c3 hel hd); ⟨f1,a,f2,f3⟩
  have mX:∀y∈el'.cells.drop off,pl y=true:=by
   intro y hy;obtain⟨j,hj⟩:=bt (cQ hy);exact (lI (mY j y hj).1).1
  have hv:=plrd hr mX;have afX:el'.cells.length=k':=c3 el' (aU hel);have hi:(i+1)*k'<=xs.length*k':=bK k' (aj hel);rw[cj] at hi
  obtain⟨va,q1,q2⟩:=U7 (ys:=cs.drop (i*k'+off)) hr (by simp; omega) (fun j x y hx hy=>by
   rw[aO] at hx hy;obtain⟨_,a',a1,a2⟩:=mY _ x hx;rw[show i*k'+(off+j)=i*k'+off+j by omega] at a1;rw[a1] at hy;cases hy;exact a2)
  refine fin (va:=va) (by simp only[kz,fi,hx.ev,e,fS,e2,c1,q1]; rfl) ?_ (uE _ hv) (lG gV);rw[kJ N gV,kg N _ hv];exact q2
theorem ac5 (hm:P.follows .mixedOrders=true) (h:SB X φ w B base s (tm a)) (hg:Am.dD (ga c) X φ w) {ag:Option Nat} {x:E} {ps:List Rt} (hk:cG P o.op (kz (.ld ag x))=true) (hs:ym s ag (aR c s.env x)=some (v,ps)):kG P X φ w B base s v o a:=by
 obtain⟨N,Ha,h,hb⟩:=h;obtain⟨o',ho⟩:=adZ hk;obtain⟨va,fl,e,hle,h2,h3⟩:=abV h hg ho hs;refine kG.of (kD hm h hg hk e) fun v' w' φ' r hh ad=>?_;exact dP.quiet (h.nN ad hh h.own (fun _ _=>rfl)) hb h2 h3 (hle _ _ _ r)
end
end Go.Bm
