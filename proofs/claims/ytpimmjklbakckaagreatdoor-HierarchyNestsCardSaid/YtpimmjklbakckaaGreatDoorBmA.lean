/- The machine by value: a slice that is owned is a value, too; others that refer to it borrow it from its place. -/
import Derived.Test.YtpimmjklbakckaaGreatDoorMa
set_option linter.unusedVariables false

open Bool renaming and_eq_true → ae, false_eq_true → bp
open Nat renaming beq → kf, eq_of_beq_eq_true → cn
namespace Go.Bm
open Go.Am

structure Md where
 sh:Bool
 ow:Bool
 cl:Bool
 deriving Inhabited
structure dO where
 fn:Nat->Option (Md × gH)
 gl:Nat->List AV
 orc:Nat->Option (List AV->Heap->Option (AV × Heap))
 inp:Nat->Option (Nat->List AV->List AV->Option (List AV × Option Nat))
 eat:Nat->Option (Nat->List AV->List AV->Option (List AV)):=fun _=>none
 loc:Nat->Bool:=fun _=>false
 emp:Nat->Bool:=fun _=>false
 mov:Nat->Option Nat:=fun _=>none

def eY:Nat:=1000000
def kW:Nat:=500000
def OY:Nat:=1000000
def vB (b j:Nat):Nat:=b+(j+1)*OY
def KH (b x:Nat):Bool:=decide (OY<=x)&&(decide (b<=x)&&decide ((x-b)%OY=0))
def nf (b:Nat):List Nat->Bool
 |[]=>false
 |x::r=>decide (x=b)||(KH b x||nf b r)
def marks:List Nat->List Nat
 |[]=>[]
 |i::r=>(i+kW)::marks r

/-! Values -/
mutual
def cD (g:AV->AV):AV->AV
 |.dz k p off len=>g (.dz k p off len)
 |.eV k p i off=>g (.eV k p i off)
 |.agg cs=>.agg (cO g cs)
 |.dF cs=>.dF (cO g cs)
 |.func f a b=>.func f (cO g a) (cO g b)
 |.any=>.any|.undef=>.undef|.fo=>.fo|.fv=>.fv|.dp=>.dp
 |.int k n=>.int k n|.bool b=>.bool b|.str s=>.str s
 |.list k xs=>.list k xs|.dh cs=>.dh cs|.ptr b off=>.ptr b off|.sl k b off len=>.sl k b off len
 |.own k xs=>.own k xs
def cO (g:AV->AV):List AV->List AV
 |[]=>[]
 |x::r=>cD g x::cO g r
end
mutual
def aK:AV->List Rt
 |.dz _ p _ _=>[p]
 |.eV _ p _ _=>[p]
 |.agg cs=>cW cs
 |.dF cs=>cW cs
 |.func _ a b=>cW a++cW b
 |_=>[]
def cW:List AV->List Rt
 |[]=>[]
 |x::r=>aK x++cW r
end
mutual
def pl:AV->Bool
 |.own _ _|.dz _ _ _ _|.eV _ _ _ _|.ptr _ _|.sl _ _ _ _=>false
 |.agg cs=>eE cs
 |.dF cs=>eE cs
 |.func f a b=>!An f&&(eE a&&eE b)
 |_=>true
def eE:List AV->Bool
 |[]=>true
 |x::r=>pl x&&eE r
end
def fz (x:AV):Bool:=x.leaf&&pl x
def K0:List AV->Bool
 |[]=>true
 |x::r=>fz x&&K0 r
def bJ:List AV->Bool
 |[]=>false
 |.own _ _::_=>true
 |_::r=>bJ r
def bL:AV->Bool
 |.own _ _=>true
 |.agg cs=>bJ cs
 |_=>false
mutual
def clean:AV->Bool
 |.list _ xs=>xs.isEmpty
 |.dh _|.any|.func _ _ _|.dz _ _ _ _|.eV _ _ _ _|.ptr _ _|.sl _ _ _ _=>false
 |.own _ xs=>gC xs
 |.agg cs=>gC cs
 |.dF cs=>gC cs
 |_=>true
def gC:List AV->Bool
 |[]=>true
 |x::r=>clean x&&gC r
end

/-! Places -/
def eF (f:Nat->Rt):Nat->List AV->List AV
 |_,[]=>[]
 |j,.own k xs::r=>.dz k (f j) 0 xs.length::eF f (j+1) r
 |j,x::r=>x::eF f (j+1) r
def eT (i:Nat):AV->AV
 |.own k xs=>.dz k (.s i) 0 xs.length
 |.agg cs=>.agg (eF (.sc i) 0 cs)
 |v=>v
def at_ (s:St):Rt->Option AV
 |.s i=>some (get s.env i)
 |.sc i j=>match get s.env i with
   |.agg cs=>cs[j]?
   |_=>none
 |.c b j=>match aJ s.H b with
   |some cs=>cs[j]?
   |none=>none
def au (s:St) (p:Rt):Option (Nat × List AV):=
 match at_ s p with
 |some (.own k xs)=>some (k,xs)
 |_=>none
def setAt (s:St) (p:Rt) (v:AV):St:=
 match p with
 |.s i=>⟨put s.env i v,s.H⟩
 |.sc i j=>match get s.env i with
   |.agg cs=>⟨put s.env i (.agg (cs.set j v)),s.H⟩
   |_=>s
 |.c b j=>match aJ s.H b with
   |some cs=>⟨s.env,s.H.set b (some (cs.set j v))⟩
   |none=>s
def jS (g:AV->AV):Env->Env
 |[]=>[]
 |(i,v)::r=>(i,cD g v)::jS g r
def fJ (g:AV->AV):Heap->Heap
 |[]=>[]
 |none::r=>none::fJ g r
 |some cs::r=>some (cO g cs)::fJ g r
def cm (g:AV->AV) (s:St):St:=⟨jS g s.env,fJ g s.H⟩

def sw (p:Rt):AV->AV
 |.dz k q off len=>if q=p then .any else .dz k q off len
 |.eV k q i off=>if q=p then .any else .eV k q i off
 |v=>v
def rt (p q:Rt) (n:Nat):AV->AV
 |.dz k r off len=>if r=p then (if off+len<=n then .dz k q off len else .any) else .dz k r off len
 |.eV k r i off=>if r=p then (if i<n then .eV k q i off else .any) else .eV k r i off
 |v=>v
def fb (p:Rt) (k:Nat) (xs:List AV):AV->AV
 |.dz k' q off len=>if q=p then (if k'=k/\off+len<=xs.length then .list k ((xs.drop off).take len) else .any) else .dz k' q off len
 |.eV k' q i off=>if q=p then (if k'=k then match xs[i]? with
   |some x=>.dh (x.cells.drop off)
   |none=>.any
   else .any) else .eV k' q i off
 |v=>v
def GJ (s:St) (p:Rt):St:=
 match au s p with
 |some (k,xs)=>setAt (cm (fb p k xs) s) p (.list k xs)
 |none=>s
def dK:List Rt->St->St
 |[],s=>s
 |p::r,s=>dK r (GJ s p)

def OO (p:Rt) (q:Rt):AV->Option Rt
 |.dz _ r _ _=>if r=p then some q else none
 |_=>none
def Ld (p:Rt) (f:Nat->Rt):Nat->List AV->Option Rt
 |_,[]=>none
 |j,x::r=>match OO p (f j) x with
   |some y=>some y
   |none=>Ld p f (j+1) r
def borS (p:Rt) (i:Nat):AV->Option Rt
 |.agg cs=>Ld p (.sc i) 0 cs
 |v=>OO p (.s i) v
def borE (p:Rt):Env->Option Rt
 |[]=>none
 |(i,v)::r=>match borS p i v with
   |some y=>some y
   |none=>borE p r
def borH (p:Rt):Nat->Heap->Option Rt
 |_,[]=>none
 |b,none::r=>borH p (b+1) r
 |b,some cs::r=>match Ld p (.c b) 0 cs with
   |some y=>some y
   |none=>borH p (b+1) r
def Oq (p:Rt) (s:St):Option Rt:=
 match borS p eY (get s.env eY) with
 |some y=>some y
 |none=>match borE p s.env with
   |some y=>some y
   |none=>borH p 0 s.H
def rel (s:St) (p:Rt):St:=
 match au s p with
 |none=>s
 |some (k,xs)=>match Oq p s with
   |none=>setAt (cm (sw p) s) p .any
   |some q=>match at_ s q with
     |some (.dz _ r 0 len)=>if r=p then setAt (setAt (cm (rt p q len) s) p .any) q (.own k (xs.take len)) else GJ s p
     |_=>GJ s p
def HN (i:Nat):Nat->List AV->St->St
 |_,[],s=>s
 |j,.own _ _::r,s=>HN i (j+1) r (rel s (.sc i j))
 |j,_::r,s=>HN i (j+1) r s
def Bo (s:St) (i:Nat):St:=
 match get s.env i with
 |.own _ _=>rel s (.s i)
 |.agg cs=>HN i 0 cs s
 |_=>s
def nV (keep:List Nat):Env->St->St
 |[],s=>s
 |(i,_)::r,s=>nV keep r (if mem i keep then s else Bo s i)
def sG (keep:List Nat):Env->Bool
 |[]=>false
 |(i,v)::r=>(!mem i keep&&bL v)||sG keep r

def jc (i d:Nat):Rt->Rt
 |.s j=>if j=i then .s d else .s j
 |.sc j l=>if j=i then .sc d l else .sc j l
 |.c b j=>.c b j
def V7 (i d:Nat):AV->AV
 |.dz k p off len=>.dz k (jc i d p) off len
 |.eV k p l off=>.eV k (jc i d p) l off
 |v=>v
def KU (s:St) (d:Nat):St:=
 let s1:=cm (V7 eY d) s
 ⟨put (put s1.env eY .any) d (get s1.env eY),s1.H⟩
def xk (f:Rt->Bool):List Rt->Bool
 |[]=>false
 |p::r=>f p||xk f r
def Hj (f:Rt->Bool):Env->Bool
 |[]=>false
 |(_,v)::r=>xk f (aK v)||Hj f r
def Hh (f:Rt->Bool):Heap->Bool
 |[]=>false
 |none::r=>Hh f r
 |some cs::r=>xk f (cW cs)||Hh f r
def Hk (f:Rt->Bool) (s:St) (v:AV):Bool:=xk f (aK v)||(Hj f s.env||Hh f s.H)
def bw (d:Nat):Rt->Bool
 |.s i=>decide (i=d)
 |.sc i _=>decide (i=d)
 |.c _ _=>false
def cP (b off k:Nat):Rt->Bool
 |.c c j=>decide (c=b)&&(decide (off<=j)&&decide (j<off+k))
 |_=>false
def LX (s:St) (d:Nat) (v:AV):Bool:=bL (get s.env d)&&Hk (bw d) s v
def VT (s:St) (d:Nat) (v:AV):Option St:=
 if LX s d v then
  match get s.env eY with
  |.any=>if bL (get (Bo ⟨put s.env eY v,s.H⟩ d).env d) then none else some (KU (Bo ⟨put s.env eY v,s.H⟩ d) d)
  |_=>none
 else some ⟨put s.env d v,s.H⟩
def yT (s:St) (d:Option Nat) (v:AV):Option St:=
 match d with
 |some d=>VT s d v
 |none=>some s

/-! Boxes that nobody refers to -/
mutual
def sy (b:Nat):AV->Bool
 |.ptr c _=>decide (c≠b)
 |.sl _ c _ _=>decide (c≠b)
 |.dz _ (.c d _) _ _=>decide (d≠b)
 |.eV _ (.c d _) _ _=>decide (d≠b)
 |.agg cs=>jI b cs
 |.dF cs=>jI b cs
 |.func _ x y=>jI b x&&jI b y
 |_=>true
def jI (b:Nat):List AV->Bool
 |[]=>true
 |x::r=>sy b x&&jI b r
end
def BX (b:Nat):Env->Bool
 |[]=>true
 |(_,v)::r=>sy b v&&BX b r
def wL (b:Nat):Heap->Bool
 |[]=>true
 |none::r=>wL b r
 |some cs::r=>jI b cs&&wL b r
def trim (base:Nat) (env:Env):Nat->Heap->Heap
 |0,H=>H
 |n+1,H=>if base<=n/\H.length=n+1/\BX n env=true/\wL n (H.take n)=true then trim base env n (H.take n) else H
def Z9 (base:Nat) (keep:List Nat) (s:St):St:=⟨rF keep s.env,trim base (rF keep s.env) s.H.length s.H⟩
def QU (base:Nat) (keep:List Nat) (s:St):Option St:=
 if sG keep s.env then
  if sG keep (nV keep s.env s).env then none else some (Z9 base keep (nV keep s.env s))
 else some (Z9 base keep s)

/-! Operations -/
def aY (c:dO) (env:Env):E->AV
 |.t i=>eT i (get env i)
 |.k x=>x
 |.g i=>.dh (c.gl i)
def dv (c:dO) (env:Env):List E->List AV
 |[]=>[]
 |x::r=>aY c env x::dv c env r
def cont (s:St) (k:Nat):AV->Option (List AV)
 |.list k' xs=>if k'=k then some xs else none
 |.own _ []=>some []
 |.dz k' p off len=>match au s p with
   |some (xX,xs)=>if k'=k/\xX=k/\off+len<=xs.length then some ((xs.drop off).take len) else none
   |none=>none
 |_=>none
def QR:AV->Option AV
 |.own k xs=>some (.list k xs)
 |x=>if fz x then some x else none
def yV:List AV->Option (List AV)
 |[]=>some []
 |x::r=>match QR x,yV r with
   |some y,some ys=>some (y::ys)
   |_,_=>none
def Oi (s:St) (k b off len:Nat):Option AV:=
 match aJ s.H b with
 |some cs=>if k=1/\off+len<=cs.length then match yV ((cs.drop off).take len) with
   |some ys=>some (.list 1 ys)
   |none=>none
   else none
 |none=>none
mutual
def ks (sh:Bool) (s:St):AV->Option AV
 |.dz k p off len=>match au s p with
   |some (k',xs)=>if k'=k/\off+len<=xs.length then some (.list k ((xs.drop off).take len)) else none
   |none=>none
 |.own _ _=>none
 |.agg cs=>match Cv sh s cs with
   |some ds=>some (.agg ds)
   |none=>none
 |.dF cs=>match Cv sh s cs with
   |some ds=>some (.dF ds)
   |none=>none
 |.func f a b=>match Cv sh s a,Cv sh s b with
   |some a',some b'=>some (.func f a' b')
   |_,_=>none
 |.ptr b off=>if sh then some (.ptr b off) else none
 |.eV _ _ _ _=>none
 |.sl _ _ _ _=>none
 |.any=>none
 |x=>some x
def Cv (sh:Bool) (s:St):List AV->Option (List AV)
 |[]=>some []
 |x::r=>match ks sh s x,Cv sh s r with
   |some y,some ys=>some (y::ys)
   |_,_=>none
end
mutual
def QQ (s:St):AV->Option AV
 |.sl k b off len=>Oi s k b off len
 |.dF cs=>match Jv s cs with
   |some ds=>some (.dF ds)
   |none=>none
 |x=>ks false s x
def Jv (s:St):List AV->Option (List AV)
 |[]=>some []
 |x::r=>match QQ s x,Jv s r with
   |some y,some ys=>some (y::ys)
   |_,_=>none
end
def gq:AV->AV
 |.own k []=>.list k []
 |v=>v
def uj (s:St):List AV->Option (List AV)
 |[]=>some []
 |.own k []::r=>match uj s r with
   |some ys=>some (.list k []::ys)
   |none=>none
 |.sl k b off len::r=>match Oi s k b off len,uj s r with
   |some y,some ys=>some (y::ys)
   |_,_=>none
 |x::r=>match ks false s x,uj s r with
   |some y,some ys=>some (y::ys)
   |_,_=>none
def EM:List AV->List Rt
 |[]=>[]
 |.sl _ b _ _::r=>.c b 1::EM r
 |_::r=>EM r
mutual
def lN:AV->Bool
 |.own _ _|.dz _ _ _ _|.eV _ _ _ _=>false
 |.agg cs=>fI cs
 |.dF cs=>fI cs
 |.func _ a b=>fI a&&fI b
 |_=>true
def fI:List AV->Bool
 |[]=>true
 |x::r=>lN x&&fI r
end
def ud:AV->Option Nat
 |.dp=>some 0
 |.own _ []=>some 0
 |.list _ xs=>some xs.length
 |.dz _ _ _ len=>some len
 |.sl _ _ _ len=>some len
 |_=>none
def Ag (c:dO) (env:Env) (dflt hi:Nat):Option E->Option Nat
 |none=>some dflt
 |some x=>bnd (aY c env x) hi
def qN (c:dO) (env:Env):List AV->List (Nat × Nat × E)->Option (List AV)
 |zs,[]=>some zs
 |zs,(off,sz,x)::r=>
   if (aY c env x).cells.length=sz/\off+sz<=zs.length/\bq (aY c env x).cells=true then qN c env (iZ zs off (aY c env x).cells) r else none
def gK:Et->AV->Option Bool
 |.Qg,.dp=>some true
 |.Qg,.dz _ _ _ len=>if len=0 then none else some false
 |.Qg,.list _ (_::_)=>some false
 |.Qg,.sl _ _ _ _=>some false
 |.F4,.fo=>some true
 |.F4,.ptr _ _=>some false
 |.F4,.dh _=>some false
 |.nfn,.fv=>some true
 |.nfn,.func f _ _=>if An f then none else some false
 |_,_=>none
def eqB:Et->AV->AV->Option Bool
 |.bool,.bool a,.bool b=>some (a == b)
 |.str l,.agg xs,.agg ys=>yp l xs ys
 |.Qg,x,.own _ []=>gK .Qg x
 |.Qg,x,.dp=>gK .Qg x
 |.F4,x,.fo=>gK .F4 x
 |.nfn,x,.fv=>gK .nfn x
 |_,_,_=>none
def Kg (ag:Option Nat) (cs:List AV):Option AV:=
 match BR ag cs with
 |some v=>if bL v then none else some v
 |none=>none
def P5 (c:dO) (env:Env):Kd->Option AV
 |.mv x=>some (aY c env x)
 |.pick t a b=>match aY c env t with
   |.bool t=>some (if t then aY c env a else aY c env b)
   |_=>none
 |.build zs ps=>match qN c env zs ps with
   |some cs=>some (.agg cs)
   |none=>none
 |.mB x=>match aY c env x with
   |.ptr b off=>some (.ptr b off)
   |.dh cs=>some (.dh cs)
   |.func (.func f) a b=>some (.func (.func f) a b)
   |_=>none
 |.bin op x y=>qT op (aY c env x) (aY c env y)
 |.eq ng t x y=>match eqB t (aY c env x) (aY c env y) with
   |some e=>some (.bool (if ng then !e else e))
   |none=>none
 |.un op x=>PE op (aY c env x)
 |.LF k x=>match aY c env x with
   |.int _ n=>some (.int k (k.wrap n))
   |_=>none
 |.O7 fn a b=>if An fn||bJ (dv c env a++dv c env b) then none else some (.func fn (dv c env a) (dv c env b))
 |.EN k x lo hi=>match ud (aY c env x) with
   |some n=>match Ag c env n n hi with
     |some h=>match Ag c env 0 h lo with
       |some l=>match aY c env x with
         |.own k' xs=>if k'=k then some (.own k xs) else none
         |.list k' xs=>if k'=k then some (.list k ((xs.take h).drop l)) else none
         |.dz k' p off _=>if k'=k then some (.dz k p (off+l) (h-l)) else none
         |.sl k' b off _=>if k'=k then some (.sl k b (off+l*k) (h-l)) else none
         |_=>none
       |none=>none
     |none=>none
   |none=>none
 |.yn off x=>match aY c env x with
   |.ptr b o=>some (.ptr b (o+off))
   |.dh cs=>some (.dh (cs.drop off))
   |.eV k p i o=>some (.eV k p i (o+off))
   |_=>none
 |.Ic n x hi=>match hi with
   |none=>match aY c env x with
     |.dh cs=>if n<=cs.length/\bq (cs.take n)=true then some (.list 1 (cs.take n)) else none
     |_=>none
   |some _=>none
 |.Wy off ag x=>match aY c env x with
   |.agg cs=>Kg ag (cs.drop off)
   |_=>none
 |.sU k x i=>match aY c env x with
   |.list k' xs=>match idx (aY c env i) xs.length with
     |some j=>if k'=k then match xs[j]? with
       |some v=>some (.dh v.cells)
       |none=>none
       else none
     |none=>none
   |.dz k' p off len=>match idx (aY c env i) len with
     |some j=>if k'=k then some (.eV k p (off+j) 0) else none
     |none=>none
   |.sl k' b off len=>match idx (aY c env i) len with
     |some j=>if k'=k then some (.ptr b (off+j*k)) else none
     |none=>none
   |_=>none
 |.DU n k x i=>match idx (aY c env i) n with
   |some j=>match aY c env x with
     |.ptr b off=>some (.ptr b (off+j*k))
     |.dh cs=>some (.dh (cs.drop (j*k)))
     |.eV k' p l off=>some (.eV k' p l (off+j*k))
     |_=>none
   |none=>none
 |.ix n k ag x i=>match idx (aY c env i) n with
   |some j=>match aY c env x with
     |.agg cs=>Kg ag (cs.drop (j*k))
     |_=>none
   |none=>none
 |.We tab i=>match idx (aY c env i) tab.length with
   |some j=>match tab[j]? with
     |some v=>some (.int .u8 v)
     |none=>none
   |none=>none
 |.ext i x=>match aY c env x with
   |.dF vs=>match vs[i]? with
     |some v=>if bL v then none else some v
     |none=>none
   |_=>none
 |.len x=>match ud (aY c env x) with
   |some n=>some (.int .i64 n)
   |none=>none
 |.min xs=>yG false (dv c env xs)
 |.max xs=>yG true (dv c env xs)
 |_=>none

def gj (c:dO) (env:Env):List (Nat × Nat × E)->List Rt
 |[]=>[]
 |(_,_,x)::r=>aK (aY c env x)++gj c env r
inductive Fq where
 |no|rc (b j:Nat)|rd (ps:List Rt)|al (n:Nat)|wr (sl:List Nat) (bs:Option (List Nat))|all|sp|bo (ps:List Rt)|lw (b:Nat)
 deriving Inhabited
def wX (p:Rt):List Rt->Bool
 |[]=>false
 |q::r=>decide (q=p)||wX p r
def isRoot (p:Rt) (i:Nat):Bool:=
 match p with
 |.s j=>decide (j=i)
 |.sc j _=>decide (j=i)
 |.c _ _=>false
def kY (p:Rt):Env->List Nat
 |[]=>[]
 |(i,v)::r=>if wX p (aK v)||isRoot p i then i::kY p r else kY p r
def sk (p:Rt):Nat->Heap->List Nat
 |_,[]=>[]
 |b,none::r=>sk p (b+1) r
 |b,some cs::r=>if wX p (cW cs) then b::sk p (b+1) r else sk p (b+1) r
def eX:List Rt->Bool
 |[]=>false
 |.c _ _::_=>true
 |_::r=>eX r
def fy:Env->List Nat
 |[]=>[]
 |(i,v)::r=>if eX (aK v) then i::fy r else fy r
def LO (k:Nat) (x:AV) (off:Nat) (vs:List AV):AV:=if off=0/\vs.length=k then el vs else el (iZ x.cells off vs)
def zw (s:St) (ag:Option Nat):AV->Option (AV × List Rt)
 |.dh cs=>match Kg ag cs with
   |some v=>some (v,[])
   |none=>none
 |.ptr b off=>match aJ s.H b with
   |some cs=>match Kg ag ((eF (.c b) 0 cs).drop off) with
     |some v=>some (v,[.c b (if (aK v).isEmpty then 1 else 0)])
     |none=>none
   |none=>none
 |.eV k p i off=>match au s p with
   |some (k',xs)=>if k'=k then match xs[i]? with
     |some x=>match Kg ag (x.cells.drop off) with
       |some v=>some (v,[p])
       |none=>none
     |none=>none
     else none
   |none=>none
 |_=>none
def BP (b:Nat):Nat->Nat->St->St
 |_,0,s=>s
 |j,n+1,s=>BP b (j+1) n (match au s (.c b j) with
   |some _=>rel s (.c b j)
   |none=>s)
def ik (i b off:Nat):Rt->Rt
 |.s j=>if j=i then .c b off else .s j
 |.sc j l=>if j=i then .c b (off+l) else .sc j l
 |.c d j=>.c d j
def iN (i b off:Nat):AV->AV
 |.dz k p o len=>.dz k (ik i b off p) o len
 |.eV k p l o=>.eV k (ik i b off p) l o
 |v=>v
def yg (s:St) (b off k:Nat):Option St:=
 match aJ (cm (iN eY b off) s).H b with
 |some cs=>if (get (cm (iN eY b off) s).env eY).cells.length=k/\off+k<=cs.length/\bJ ((cs.drop off).take k)=false/\bq (get (cm (iN eY b off) s).env eY).cells=true then
   some ⟨put (cm (iN eY b off) s).env eY .any,(cm (iN eY b off) s).H.set b (some (iZ cs off (get (cm (iN eY b off) s).env eY).cells))⟩
   else none
 |none=>none
def yP (s:St) (b off k:Nat) (v:AV):Option (St × Fq):=
 match aJ s.H b with
 |some cs=>if v.cells.length=k/\off+k<=cs.length/\bq v.cells=true then
   if bJ ((cs.drop off).take k)&&Hk (cP b off k) s v then
    match get s.env eY with
    |.any=>match yg (BP b off k ⟨put s.env eY v,s.H⟩) b off k with
      |some s'=>some (s',.all)
      |none=>none
    |_=>none
   else some (⟨s.env,s.H.set b (some (iZ cs off v.cells))⟩,.wr [] (some [b]))
   else none
 |none=>none
def rootOf:Rt->List Nat
 |.s i=>[i]
 |.sc i _=>[i]
 |.c _ _=>[]
def kA:Rt->List Nat
 |.c b _=>[b]
 |_=>[]
def Ug:Rt->List Nat
 |.c b _=>[vB b 99999]
 |_=>[]
def O4 (s:St) (k:Nat) (a v:AV):Option (St × Fq):=
 match a with
 |.ptr b off=>yP s b off k v
 |.eV k' p i off=>match au s p with
   |some (xX,xs)=>if xX=k' then match xs[i]? with
     |some x=>if v.cells.length=k/\off+k<=k'/\K0 v.cells=true then some (setAt s p (.own k' (xs.set i (LO k' x off v.cells))),.wr (marks (rootOf p)) (some (Ug p))) else none
     |none=>none
     else none
   |none=>none
 |_=>none

def lV:AV->AV
 |.dz _ (.c _ _) _ _=>.any
 |.eV _ (.c _ _) _ _=>.any
 |x=>x
def dD:Rt->Bool
 |.c _ _=>false
 |_=>true
def iu:Heap->Bool
 |[]=>true
 |none::_=>false
 |some cs::r=>!xk dD (cW cs)&&iu r
def mO:AV->AV
 |.dz k (.c b j) off len=>.dz k (.c b j) off len
 |.eV k (.c b j) i off=>.eV k (.c b j) i off
 |.dz _ _ _ _=>.any
 |.eV _ _ _ _=>.any
 |x=>x
def fnE:Fn->Fn->Bool
 |.func f,y=>match y with|.func g=>kf f g|_=>false
 |_,_=>false
mutual
def o7:AV->AV->Bool
 |.any,y=>match y with|.any=>true|_=>false
 |.undef,y=>match y with|.undef=>true|_=>false
 |.fo,y=>match y with|.fo=>true|_=>false
 |.fv,y=>match y with|.fv=>true|_=>false
 |.dp,y=>match y with|.dp=>true|_=>false
 |.int k n,y=>match y with|.int k' n'=>decide (k=k')&&decide (n=n')|_=>false
 |.bool b,y=>match y with|.bool b'=>b == b'|_=>false
 |.str _,_=>false
 |.agg x,y=>match y with|.agg x'=>iX x x'|_=>false
 |.dF x,y=>match y with|.dF x'=>iX x x'|_=>false
 |.list k x,y=>match y with|.list k' x'=>kf k k'&&iX x x'|_=>false
 |.dh x,y=>match y with|.dh x'=>iX x x'|_=>false
 |.ptr b o,y=>match y with|.ptr b' o'=>kf b b'&&kf o o'|_=>false
 |.sl k b o l,y=>match y with|.sl k' b' o' l'=>(kf k k'&&kf b b')&&(kf o o'&&kf l l')|_=>false
 |.func f a b,y=>match y with|.func f' a' b'=>fnE f f'&&(iX a a'&&iX b b')|_=>false
 |.own k x,y=>match y with|.own k' x'=>kf k k'&&iX x x'|_=>false
 |.dz k p o l,y=>match y with|.dz k' p' o' l'=>(kf k k'&&decide (p=p'))&&(kf o o'&&kf l l')|_=>false
 |.eV k p i o,y=>match y with|.eV k' p' i' o'=>(kf k k'&&decide (p=p'))&&(kf i i'&&kf o o')|_=>false
def iX:List AV->List AV->Bool
 |[],y=>match y with|[]=>true|_=>false
 |a::r,y=>match y with|b::s=>o7 a b&&iX r s|_=>false
end
theorem afD:∀{f g:Fn},fnE f g=true->f=g:=by
 intro f g h;cases f<;>cases g<;>simp only[fnE,bp] at h
 rw[cn h]
mutual
theorem afW:∀(a b:AV),o7 a b=true->a=b
 |.any,b,h=>by cases b<;>first|rfl|(simp[o7] at h; done)
 |.undef,b,h=>by cases b<;>first|rfl|(simp[o7] at h; done)
 |.fo,b,h=>by cases b<;>first|rfl|(simp[o7] at h; done)
 |.fv,b,h=>by cases b<;>first|rfl|(simp[o7] at h; done)
 |.dp,b,h=>by cases b<;>first|rfl|(simp[o7] at h; done)
 |.int k n,b,h=>by
   cases b<;>first|(simp[o7] at h; done)|skip
   simp only[o7,ae,decide_eq_true_eq] at h;rw[h.1,h.2]
 |.bool x,b,h=>by
   cases b<;>first|(simp[o7] at h; done)|skip
   simp only[o7,beq_iff_eq] at h;rw[h]
 |.str _,b,h=>by simp[o7] at h
 |.agg x,b,h=>by
   cases b<;>first|(simp[o7] at h; done)|skip
   simp only[o7] at h;rw[qU _ _ h]
 |.dF x,b,h=>by
   cases b<;>first|(simp[o7] at h; done)|skip
   simp only[o7] at h;rw[qU _ _ h]
 |.dh x,b,h=>by
   cases b<;>first|(simp[o7] at h; done)|skip
   simp only[o7] at h;rw[qU _ _ h]
 |.list k x,b,h=>by
   cases b<;>first|(simp[o7] at h; done)|skip
   simp only[o7,ae] at h;rw[cn h.1,qU _ _ h.2]
 |.own k x,b,h=>by
   cases b<;>first|(simp[o7] at h; done)|skip
   simp only[o7,ae] at h;rw[cn h.1,qU _ _ h.2]
 |.ptr k x,b,h=>by
   cases b<;>first|(simp[o7] at h; done)|skip
   simp only[o7,ae] at h;rw[cn h.1,cn h.2]
 |.sl k x y z,b,h=>by
   cases b<;>first|(simp[o7] at h; done)|skip
   simp only[o7,ae] at h;rw[cn h.1.1,cn h.1.2,cn h.2.1,cn h.2.2]
 |.func f x y,b,h=>by
   cases b<;>first|(simp[o7] at h; done)|skip
   simp only[o7,ae] at h;rw[afD h.1,qU _ _ h.2.1,qU _ _ h.2.2]
 |.dz k x y z,b,h=>by
   cases b<;>first|(simp[o7] at h; done)|skip
   simp only[o7,ae,decide_eq_true_eq] at h;rw[cn h.1.1,h.1.2,cn h.2.1,cn h.2.2]
 |.eV k x y z,b,h=>by
   cases b<;>first|(simp[o7] at h; done)|skip
   simp only[o7,ae,decide_eq_true_eq] at h;rw[cn h.1.1,h.1.2,cn h.2.1,cn h.2.2]
theorem qU:∀(x y:List AV),iX x y=true->x=y
 |[],y,h=>by cases y<;>first|rfl|(simp[iX] at h; done)
 |a::r,y,h=>by
   cases y with
   |nil=>simp[iX] at h
   |cons b s=>
     simp only[iX,ae] at h;rw[afW _ _ h.1,qU _ _ h.2]
end
def qR:Ru->Ru->Bool
 |none,y=>match y with|none=>true|some _=>false
 |some x,y=>match y with|some x'=>iX x x'|none=>false
theorem acA {x y:Ru} (h:qR x y=true):x=y:=by
 cases x<;>cases y<;>simp only[qR,bp] at h
 ·rfl
 ·rw[qU _ _ h]
mutual
def rh:AV->List Nat
 |.ptr b _=>[b]
 |.sl _ b _ _=>[b]
 |.agg cs=>fD cs
 |.dF cs=>fD cs
 |.func _ a b=>fD a++fD b
 |_=>[]
def fD:List AV->List Nat
 |[]=>[]
 |x::r=>rh x++fD r
end
def ja:Ru->Bool
 |some cs=>!bJ cs&&(cW cs).isEmpty
 |none=>false
def dn (l:List Nat):Nat->Heap->Heap->Option (List Nat)
 |_,[],[]=>some []
 |b,x::H,y::H'=>match dn l (b+1) H H' with
   |some r=>if mem b l then some r else if qR x y then some (if ja x then r else (b+kW)::r) else none
   |none=>none
 |_,_,_=>none
def gn (l:List Nat):Option (List Nat)->Option (List Nat)
 |some r=>some (l++r)
 |none=>none
mutual
def TL:AV->AV
 |.dz k p off n=>if n=0 then .list k [] else .dz k p off n
 |.agg cs=>.agg (AW cs)
 |v=>v
def AW:List AV->List AV
 |[]=>[]
 |x::r=>TL x::AW r
end
def oX (c:dO) (env:Env):Kd->Option (Nat × List AV)
 |.call f args=>some (f,dv c env args)
 |.iR x args=>match aY c env x with
   |.func (.func f) a b=>if bJ a||bJ b then none else some (f,a++dv c env args++b)
   |_=>none
 |_=>none
def getArgs (c:dO) (env:Env) (kd:Kd):Option (Nat × List AV):=
 match oX c env kd with
 |some (f,args)=>some (f,if c.emp f=true then AW args else args)
 |none=>none
def MQ (r:AV):Bool:=clean r&&(match r with
 |.own _ _=>true
 |r=>!bL r)
def mG (s:St):List Rt->Fq
 |[p]=>match au s p with
   |some _=>.wr (kY p s.env) (some (kA p++sk p 0 s.H))
   |none=>.all
 |_=>.all
def dP (c:dO) (call:Nat->List AV->Heap->Option (AV × Heap)) (kd:Kd) (s:St):Option (AV × St × Fq):=
 match getArgs c s.env kd with
 |none=>none
 |some (f,args)=>match c.fn f with
   |none=>none
   |some (md,_)=>
     if md.cl&&!md.sh then
      match uj s args with
      |none=>none
      |some sM=>match call f sM [] with
        |some (r,_)=>if MQ r then some (r,s,if (cW args++EM args).isEmpty then .no else .rd (cW args++EM args)) else none
        |none=>none
     else match getArgs c (dK (cW args) s).env kd with
      |none=>none
      | some (f1, o8) => if f1 = f then
           if md.sh then
            if fI (o8.map gq)&&iu (dK (cW args) s).H then match call f (o8.map gq) (dK (cW args) s).H with
              |some (r,H')=>if ((aK r).isEmpty&&!bL r)&&iu H' then some (r,⟨jS lV (dK (cW args) s).env,H'⟩,if (cW args).isEmpty then .wr (fy s.env) (gn (fD o8) (dn (fD o8) 0 (dK (cW args) s).H H')) else .all) else none
              |none=>none
            else none
           else if eE (o8.map gq) then match call f (o8.map gq) [] with
            |some (r,_)=>if pl r then some (r,dK (cW args) s,if (cW args).isEmpty then .no else mG s (cW args)) else none
            |none=>none
           else none
        else none

def Wh (k:Nat) (p:Rt):Option Nat->AV
 |none=>.dF []
 |some m=>.dz k p 0 m
def inpL (k:Nat):Option Nat->AV
 |none=>.dF []
 |some _=>.list k []
def Gw (k b:Nat):Option Nat->AV
 |none=>.dF []
 |some m=>.sl k b 0 m
def cellOf:Rt->List Nat
 |.c b j=>[vB b j]
 |_=>[]
def zj:List Rt->List Nat
 |[]=>[]
 |p::r=>rootOf p++zj r
def ahz (s:St) (p:Rt):AV->Option AV
 |.int k n=>some (.int k n)
 |.dz k q off len=>if q=p then none else match au s q with
   |some (k',xs)=>if k'=k/\off+len<=xs.length/\gC xs=true then some (.list k ((xs.drop off).take len)) else none
   |none=>none
 |_=>none
def isFn:AV->Bool
 |.func _ _ _=>true
 |_=>false
def adZ:List AV->Bool
 |[]=>false
 |x::r=>isFn x||adZ r
def QV (s:St) (g:Nat->List AV->List AV->Option (List AV)) (x:AV) (es:List AV):Option (AV × St × Fq):=none
def qG (c:dO) (s:St):Kd->Option (Option (AV × St × Fq))
 |.call f (x::es)=>match c.inp f with
   |none=>match c.eat f with
     |none=>none
     |some g=>some (QV s g (aY c s.env x) (dv c s.env es))
   |some g=>some (match aY c s.env x with
     |.list k []=>if eE (dv c s.env es)=true then match g k [] (dv c s.env es) with
       |some (_,res)=>some (inpL k res,s,.wr [] (some []))
       |none=>none
       else none
     |.dz k p 0 len=>match au s p with
       |some (k',xs)=>if k'=k/\len<=xs.length/\eE (dv c s.env es)=true then
         match g k (xs.take len) (dv c s.env es) with
         |some (ys,res)=>some (Wh k p res,setAt s p (.own k (ys++xs.drop len)),.wr (rootOf p) (some (kA p)))
         |none=>none
         else none
       |none=>none
     |.sl k b 0 len=>match aJ s.H b with
       |some cs=>if k=1/\len<=cs.length/\K0 cs=true/\eE (dv c s.env es)=true then
         match g k (cs.take len) (dv c s.env es) with
         |some (ys,res)=>some (Gw k b res,⟨s.env,s.H.set b (some (aA ys++cs.drop len))⟩,.all)
         |none=>none
         else none
       |none=>none
     |_=>none)
 |_=>none
def Wd (c:dO) (call:Nat->List AV->Heap->Option (AV × Heap)) (s:St) (f:Nat) (es:List AV):AV->Option (AV × St × Fq)
 |.ptr b 0=>match c.fn f,aJ s.H b with
   |some (md,_),some cs=>if md.sh=true/\eE es=true/\eE cs=true then match call f (.ptr 0 0::es) [some cs] with
     |some (r,[some cs'])=>if pl r=true/\eE cs'=true then some (r,⟨s.env,s.H.set b (some cs')⟩,.lw b) else none
     |_=>none
     else none
   |_,_=>none
 |_=>none
def mP (c:dO) (call:Nat->List AV->Heap->Option (AV × Heap)) (s:St):Kd->Option (Option (AV × St × Fq))
 |.call f (x::es)=>if c.loc f=true then some (Wd c call s f (dv c s.env es) (aY c s.env x)) else none
 |_=>none
def M4 (c:dO) (call:Nat->List AV->Heap->Option (AV × Heap)) (f i:Nat) (s1:St) (xs:List AV):Option (AV × St × Fq):=none
def sT (c:dO) (call:Nat->List AV->Heap->Option (AV × Heap)) (s:St):Kd->Option (Option (AV × St × Fq))
 |.call f es=>match c.mov f with
   |some i=>some (M4 c call f i (dK (cW ((dv c s.env es).set i .undef)) s) (dv c (dK (cW ((dv c s.env es).set i .undef)) s).env es))
   |none=>none
 |_=>none
def zi:Nat->List AV->Option (Nat × Nat × Nat × Nat)
 |_,[]=>none
 |i,.sl k b off len::r=>if k=1 then some (i,b,off,len) else zi (i+1) r
 |i,_::r=>zi (i+1) r
def BJ (c:dO) (call:Nat->List AV->Heap->Option (AV × Heap)) (s:St) (kd:Kd):Option (AV × St × Fq):=none
def sK (c:dO) (call:Nat->List AV->Heap->Option (AV × Heap)) (kd:Kd) (s:St):Option (AV × St × Fq):=
 match dP c call kd s with
 |some x=>some x
 |none=>BJ c call s kd
def fP (c:dO) (call:Nat->List AV->Heap->Option (AV × Heap)) (kd:Kd) (s:St):Option (AV × St × Fq):=
 match sT c call s kd with
 |some r=>r
 |none=>sK c call kd s
def dq (c:dO) (call:Nat->List AV->Heap->Option (AV × Heap)) (kd:Kd) (s:St):Option (AV × St × Fq):=
 match qG c s kd with
 |some r=>r
 |none=>match mP c call s kd with
   |some r=>r
   |none=>fP c call kd s
def ldOK (x v:AV):Bool:=match x with
 |.ptr _ _=>true
 |_=>(aK v).isEmpty
def wV (x v:AV) (ps:List Rt):Fq:=match x,v with
 |.ptr b off,.dz _ (.c d j) _ _=>if d=b/\j=off then .rc b off else .rd ps
 |_,_=>.rd ps
def WU:List AV->Option (List AV)
 |[.own k []]=>if 1000<=k then some [.own (k-1000) []] else none
 |_=>none
def OC (p:Rt):AV->Fq
 |.dz _ q _ _=>if q=p then .wr (rootOf p) (some (kA p)) else .all
 |_=>.all
theorem xf (p:Rt) (x:AV):OC p x=.all\/∃ k off len,x=.dz k p off len/\OC p x=.wr (rootOf p) (some (kA p)):=by
 unfold OC;split
 ·rename_i k q off len;split
  ·rename_i e;subst e;exact .inr ⟨_,_,_,rfl,rfl⟩
  ·exact .inl rfl
 ·exact .inl rfl
def eS (c:dO) (call:Nat->List AV->Heap->Option (AV × Heap)) (s:St):Kd->Option (AV × St × Fq)
 |.new zs=>some (.ptr s.H.length 0,⟨s.env,s.H++[some zs]⟩,.al s.H.length)
 |.box x=>if bq (aY c s.env x).cells then some (.ptr s.H.length 0,⟨s.env,s.H++[some (aY c s.env x).cells]⟩,.al s.H.length) else none
 |.dV k n zs ps=>
   let s1:=dK (gj c s.env ps) s
   match qN c s1.env (rep zs n) ps with
   |some cs=>if K0 (cs.map gq) then some (.own k (KW k n (cs.map gq)),s1,if (gj c s.env ps).isEmpty then .no else mG s (gj c s.env ps)) else none
   |none=>none
 |.Kx k zs l cp=>match aY c s.env l,aY c s.env cp with
   |.int _ l,.int _ cp=>if 0<=l/\l<=cp/\cp<=(mN:Int) then some (match WU zs with
     |some z=>(.sl k s.H.length 0 l.toNat,⟨s.env,s.H++[some (rep z l.toNat)]⟩,.al s.H.length)
     |none=>(.own k (List.replicate l.toNat (el (zs.map gq))),s,.no)) else none
   |_,_=>none
 |.ld ag x=>match zw s ag (aY c s.env x) with
   |some (v,ps)=>if ldOK (aY c s.env x) v then some (v,s,wV (aY c s.env x) v ps) else none
   |none=>none
 |.st k a v=>match aY c s.env a with
   |.eV _ _ _ _=>
     let s1:=dK (aK (aY c s.env v)) s
     match O4 s1 k (aY c s1.env a) (aY c s1.env v) with
     |some (s',f)=>some (.undef,s',if (aK (aY c s.env v)).isEmpty then f else .all)
     |none=>none
   |a=>match O4 s k a (aY c s.env v) with
     |some (s',f)=>some (.undef,s',f)
     |none=>none
 |.UC _ _ x=>match aY c s.env x with
   |.own _ []=>some (.undef,s,.no)
   |.list _ []=>some (.undef,s,.no)
   |_=>none
 |.B4=>some (nB s.H.length,⟨s.env,s.H++[some []]⟩,.al s.H.length)
 |.yH kt ok z x k=>match mapOf (aY c s.env x) with
   |some b=>match aJ s.H b with
     |some es=>if eE es=true/\(pl (aY c s.env k)=true/\xW kt (aY c s.env k) (aY c s.env k)=some true) then
       match gP kt (aY c s.env k) es 0 with
       |some r=>if pl z=true then some (Wa ok z r,s,.rd [.c b 1]) else none
       |none=>none
       else none
     |none=>none
   |none=>none
 |.zB kt x k v=>match mapOf (aY c s.env x) with
   |some b=>match aJ s.H b with
     |some es=>if eE es=true/\((pl (aY c s.env k)=true/\pl (aY c s.env v)=true)/\xW kt (aY c s.env k) (aY c s.env k)=some true) then
       match gP kt (aY c s.env k) es 0 with
       |some r=>some (.undef,⟨s.env,s.H.set b (some (zD (aY c s.env k) (aY c s.env v) es r))⟩,.all)
       |none=>none
       else none
     |none=>none
   |none=>none
 |.call f args=>dq c call (.call f args) s
 |.iR x args=>dq c call (.iR x args) s
 |.app k x y=>match cont s k (aY c s.env y) with
   |some ys=>if bq (aA ys)=true then match aY c s.env x with
     |.own _ []=>if ys.length<=mN then some (.own k ys,s,.rd (aK (aY c s.env y))) else none
     |.dz k' p 0 len=>match au s p with
       |some (xX,xs)=>if k'=k/\xX=k/\len<=xs.length/\len+ys.length<=mN then some (.own k (xs.take len++ys),setAt (cm (sw p) s) p .any,.wr (kY p s.env++marks (zj (aK (aY c s.env y)))) (some (cellOf p++sk p 0 s.H))) else none
       |none=>none
     |_=>none
     else none
   |none=>none
 |.copy k x y=>match aY c s.env x with
   |.dz k' p off n=>if n=0 then (match cont s k (aY c s.env y) with
     |some ys=>if k'=k/\bq (aA ys)=true then some (.int .i64 0,s,.all) else none
     |none=>none) else match au s p,cont s k (aY c s.env y) with
     |some (xX,xs),some ys=>if k'=k/\xX=k/\off+n<=xs.length/\bq (aA ys)=true then some (.int .i64 (min ys.length n:Nat),setAt s p (.own k (iZ xs off (ys.take (min ys.length n)))),OC p (aY c s.env y)) else none
     |_,_=>none
   |_=>none
 |.Ic n x hi=>match aY c s.env x with
   |.ptr b off=>match Ag c s.env n n hi,aJ s.H b with
     |some m,some cs=>if off+n<=cs.length then some (.sl 1 b off m,s,.rd [.c b 1]) else none
     |_,_=>none
   |_=>match P5 c s.env (.Ic n x hi) with
     |some v=>some (v,s,.no)
     |none=>none
 |kd=>match P5 c s.env kd with
   |some v=>some (v,s,.no)
   |none=>none

def bP (e:Env) (d:Option Nat) (fl:Fq):Fq:=
 match d with
 |none=>fl
 |some d=>if bL (get e d) then .sp else if (aK (get e d)).isEmpty then fl else match fl with
   |.no=>.bo []
   |.rd ps=>.bo ps
   |.rc b _=>.bo [.c b 0]
   |_=>.sp
def Bl (e:Env) (d:Option Nat) (v:AV) (s:St) (fl:Fq):Option (St × Fq):=
 match yT s d v with
 |some s'=>some (s',bP e d fl)
 |none=>none
def sj (c:dO) (call:Nat->List AV->Heap->Option (AV × Heap)) (s:St) (o:O):Option (St × Fq):=
 match o.guard with
 |none=>match eS c call s o.kd with
   |some (v,s',fl)=>Bl s.env o.dst v s' fl
   |none=>none
 |some (g,want)=>match get s.env g with
   |.bool b=>if b=want then
     match eS c call s o.kd with
     |some (v,s',fl)=>Bl s.env o.dst v s' fl
     |none=>none
     else Bl s.env o.dst .undef s .no
   |.undef=>Bl s.env o.dst .undef s .no
   |_=>none
def mz (c:dO) (call:Nat->List AV->Heap->Option (AV × Heap)):List O->St->Option (St × List Fq)
 |[],s=>some (s,[])
 |o::r,s=>match sj c call s o with
   |some (s',fl)=>match mz c call r s' with
     |some (s'',qH)=>some (s'',fl::qH)
     |none=>none
   |none=>none

def still:Kd->Bool
 |.mv _|.pick _ _ _|.build _ _|.mB _|.bin _ _ _|.eq _ _ _ _|.un _ _|.LF _ _|.O7 _ _ _|.EN _ _ _ _|.yn _ _|.Wy _ _ _|.sU _ _ _|.DU _ _ _ _|.ix _ _ _ _ _|.ext _ _|.We _ _|.len _|.min _|.max _=>true
 |.Kx _ zs _ _=>(WU zs).isNone
 |_=>false
def gk (n:Nat):List Rt->Bool
 |[]=>true
 |.c b _::r=>decide (b<n)&&gk n r
 |_::r=>gk n r
def gF (d:Nat):List Rt->Bool
 |[]=>true
 |.s i::r=>decide (i≠d)&&gF d r
 |.sc i _::r=>decide (i≠d)&&gF d r
 |.c _ _::r=>gF d r
def Aa (d:Option Nat):Fq->Bool
 |.rd ps=>match d with
   |some d=>gF d ps
   |none=>true
 |.bo ps=>match d with
   |some d=>gF d ps
   |none=>true
 |_=>true
def rC (b:Nat):List Rt->Bool
 |[]=>true
 |.c d _::r=>decide (d≠b)&&rC b r
 |_::r=>rC b r
def Fq.ok:Fq->Fq->Bool
 |.no,.no=>true
 |.no,.rd _=>true
 |.no,.al _=>true
 |.no,.wr _ _=>true
 |.rd _,.no=>true
 |.al _,.no=>true
 |.wr _ _,.no=>true
 |.rd _,.rd _=>true
 |.rd _,.wr _ _=>true
 |.wr _ _,.rd _=>true
 |.al n,.rd ps=>gk n ps
 |.rd ps,.al n=>gk n ps
 |.al n,.bo ps=>gk n ps
 |.bo ps,.al n=>gk n ps
 |.no,.bo _=>true
 |.bo _,.no=>true
 |.rd _,.bo _=>true
 |.bo _,.rd _=>true
 |.bo _,.bo _=>true
 |.no,.rc _ _=>true
 |.rc _ _,.no=>true
 |.rc _ _,.rd _=>true
 |.rd _,.rc _ _=>true
 |.rc _ _,.rc _ _=>true
 |.rc _ _,.bo _=>true
 |.bo _,.rc _ _=>true
 |.rc _ _,.wr _ _=>true
 |.wr _ _,.rc _ _=>true
 |.al n,.rc b _=>decide (b<n)
 |.rc b _,.al n=>decide (b<n)
 |.no,.lw _=>true
 |.lw _,.no=>true
 |.rd ps,.lw b=>rC b ps
 |.lw b,.rd ps=>rC b ps
 |.rc d _,.lw b=>decide (d≠b)
 |.lw b,.rc d _=>decide (d≠b)
 |.al n,.lw b=>decide (b<n)
 |.lw b,.al n=>decide (b<n)
 |_,_=>false
def F6 (sl:List Nat):List Nat->Bool
 |[]=>true
 |i::r=>!mem i sl&&F6 sl r
def qJ (sl:List Nat) (bs:Option (List Nat)):List Rt->Bool
 |[]=>true
 |.s i::r=>(!mem i sl&&!mem (i+kW) sl)&&qJ sl bs r
 |.sc i _::r=>(!mem i sl&&!mem (i+kW) sl)&&qJ sl bs r
 |.c b j::r=>(match bs with
   |some bs=>!nf b bs&&(decide (j≠0)||!mem (b+kW) bs)
   |none=>false)&&qJ sl bs r
def Li (bs:Option (List Nat)) (b j:Nat):Bool:=match bs with
 |some bs=>!mem b bs&&(!mem (b+kW) bs&&!mem (vB b j) bs)
 |none=>false
def Ij (f:Fq) (y:O) (g:Fq):Bool:=
 match f with
 |.wr sl bs=>F6 sl y.reads&&(match y.dst with
   |some d=>!mem d sl&&!mem (d+kW) sl
   |none=>true)&&(match g with
   |.rd ps=>qJ sl bs ps
   |.rc b j=>Li bs b j
   |_=>true)
 |_=>true
def ij (x:O) (f:Fq) (y:O) (g:Fq):Bool:=f.ok g&&(Aa x.dst g&&Aa y.dst f)&&(Ij f y g&&Ij g x f)
def AQ (os:List O) (qH:List Fq):List (Nat × Nat)->Bool
 |[]=>true
 |(i,j)::r=>(decide (i=j)||ij (os.getD i ⟨none,none,.min []⟩) (qH.getD i .all) (os.getD j ⟨none,none,.min []⟩) (qH.getD j .all))&&AQ os qH r

def nW:Fq->Bool
 |.no|.rc _ _|.rd _|.al _|.bo _|.wr _ _|.lw _=>true
 |_=>false
def Ho (un:List (Nat × Nat)):Nat->List Fq->Bool
 |_,[]=>true
 |k,f::r=>(nW f||jH k k un)&&Ho un (k+1) r
def JC (os:List O) (qH:List Fq) (un:List (Nat × Nat)):Bool:=Ho un 0 qH&&AQ os qH un

/-! Results -/
def VN (c:dO) (s:St):Rv->Option AV
 |.t i=>some (aY c s.env (.t i))
 |.c i ag=>match zw s ag (aY c s.env (.t i)) with
   |some (v,_)=>some v
   |none=>none
def qM (c:dO) (s:St):List Rv->Option (List AV)
 |[]=>some []
 |r::rs=>match VN c s r,qM c s rs with
   |some v,some vs=>some (v::vs)
   |_,_=>none
def Y6 (base:Nat):Rt->Bool
 |.c b _=>decide (base<=b)
 |_=>true
def Hn (base:Nat):List Rt->Bool
 |[]=>true
 |p::r=>Y6 base p&&(r.all fun q=>decide (q≠p))&&Hn base r
def Xp (s:St):AV->Option AV
 |.dz k p 0 len=>match au s p with
   |some (k',xs)=>if k'=k/\len<=xs.length then some (.own k (xs.take len)) else none
   |none=>none
 |.own k []=>some (.own k [])
 |x=>if pl x then some x else none
def Xq (s:St) (x:AV):Option AV:=Xp s x
def sW (base:Nat) (s:St) (v:AV):Option (AV × Heap):=
 match get s.env eY with
 |.any=>
   let s2:=dK (aK v) ⟨put s.env eY v,s.H⟩
   let r:=get s2.env eY
   if lN r then some (r,trim base [(0,r)] s2.H.length (fJ mO s2.H)) else none
 |_=>none
def HB:AV->AV
 |.dz _ _ _ _=>.any
 |.own _ _=>.any
 |x=>x
def tH (s:St):Nat->List Rt->List AV->Option (List AV × Heap)
 |_,_,[]=>some ([],[])
 |n,used,.dz k (.s i) 0 len::r=>match au s (.s i) with
   |some (k',xs)=>if k'=k/\len=xs.length/\wX (.s i) used=false then
     if len=0 then match tH s n used r with
      |some (ys,hs)=>some (.list k []::ys,hs)
      |none=>none
     else match tH s (n+1) (.s i::used) r with
      |some (ys,hs)=>some (.sl k n 0 len::ys,some (aA xs)::hs)
      |none=>none
     else none
   |none=>none
 |n,used,x::r=>if lN x=true then match tH s n used r with
   |some (ys,hs)=>some (x::ys,hs)
   |none=>none
   else none
def Z4 (base:Nat) (s:St) (v:AV):Option (AV × Heap):=
 match get s.env eY,v with
 |.any,.dF cs=>if fI (cs.map HB)=true then
   match tH s (trim base [(0,.dF (cs.map HB))] s.H.length (fJ mO s.H)).length [] cs with
   |some (ys,hs)=>some (.dF ys,trim base [(0,.dF (cs.map HB))] s.H.length (fJ mO s.H)++hs)
   |none=>none
   else none
 |_,_=>none
def bR (md:Md) (base:Nat) (s:St) (v:AV):Option (AV × Heap):=
 if md.sh then (if md.ow then Z4 base s v else sW base s v)
 else if md.ow then
  if Hn base (aK v) then match Xq s v with
   |some r=>some (r,[])
   |none=>none
  else none
 else match QQ s v with
  |some r=>some (r,[])
  |none=>none
def HP (c:dO) (f:Nat) (args:List AV) (H:Heap):Option (AV × Heap):=
 match c.orc f with
 |some g=>g args H
 |none=>none
def mJ (c:dO) (run:Nat->C->St->Option (Ex × St)) (f:Nat) (args:List AV) (H:Heap):Option (AV × Heap):=
 match HP c f args H with
 |some x=>some x
 |none=>match c.fn f with
   |none=>none
   |some (md,fn)=>if args.length<=fn.n then
     match run H.length fn.body ⟨dN 0 args,H⟩ with
     |some (.ret,s)=>match qM c s fn.res with
       |some vs=>bR md H.length s (ob vs)
       |none=>none
     |some (.normal,s)=>match qM c s fn.res with
       |some vs=>bR md H.length s (ob vs)
       |none=>none
     |_=>none
     else none
def cG (c:dO):Nat->Nat->C->St->Option (Ex × St)
 |0,_,_,_=>none
 |n+1,base,cd,s=>match cd with
   |.skip=>some (.normal,s)
   |.ret=>some (.ret,s)
   |.exit id=>some (.exit id,s)
   |.rX os dr un keep=>match mz c (mJ c (cG c n)) os s with
     |some (s',qH)=>if dr=false\/JC os qH un=true then (match QU base keep s' with
       |some s2=>some (.normal,s2)
       |none=>none) else none
     |none=>none
   |.seq a b=>match cG c n base a s with
     |some (.normal,s')=>cG c n base b s'
     |r=>r
   |.cond x a b=>match aY c s.env x with
     |.bool t=>if t then cG c n base a s else cG c n base b s
     |_=>none
   |.aJ id b=>match cG c n base b s with
     |some (.exit id',s')=>if id'=id then some (.normal,s') else some (.exit id',s')
     |r=>r
   |.loop b=>match cG c n base b s with
     |some (.normal,s')=>cG c n base (.loop b) s'
     |r=>r
def kz (c:dO) (n:Nat) (f:Nat) (args:List AV) (H:Heap):Option (AV × Heap):=mJ c (cG c n) f args H

/-! The code for the older machine: what is empty and owned is nil -/
def dnV:AV->AV
 |.own _ []=>.dp
 |v=>v
def uk:List AV->List AV
 |[]=>[]
 |x::r=>dnV x::uk r
def kN:E->E
 |.k x=>.k (dnV x)
 |x=>x
def Cx:List E->List E
 |[]=>[]
 |x::r=>kN x::Cx r
def dnO:Option E->Option E
 |some x=>some (kN x)
 |none=>none
def Oy:List (Nat × Nat × E)->List (Nat × Nat × E)
 |[]=>[]
 |(i,j,x)::r=>(i,j,kN x)::Oy r
def ku:Kd->Kd
 |.mv x=>.mv (kN x)
 |.pick c a b=>.pick (kN c) (kN a) (kN b)
 |.new zs=>.new (uk zs)
 |.box x=>.box (kN x)
 |.build zs ps=>.build (uk zs) (Oy ps)
 |.dV k n zs ps=>.dV k n (uk zs) (Oy ps)
 |.ld ag x=>.ld ag (kN x)
 |.st k a v=>.st k (kN a) (kN v)
 |.mB x=>.mB (kN x)
 |.bin op x y=>.bin op (kN x) (kN y)
 |.eq ng t x y=>.eq ng t (kN x) (kN y)
 |.un op x=>.un op (kN x)
 |.LF k x=>.LF k (kN x)
 |.O7 fn a b=>.O7 fn (Cx a) (Cx b)
 |.Kx k zs l cp=>.Kx k (uk zs) (kN l) (kN cp)
 |.EN k x lo hi=>.EN k (kN x) (dnO lo) (dnO hi)
 |.yn off x=>.yn off (kN x)
 |.Ic n x hi=>.Ic n (kN x) (dnO hi)
 |.Wy off ag x=>.Wy off ag (kN x)
 |.sU k x i=>.sU k (kN x) (kN i)
 |.DU n k x i=>.DU n k (kN x) (kN i)
 |.ix n k ag x i=>.ix n k ag (kN x) (kN i)
 |.ext i x=>.ext i (kN x)
 |.call f args=>.call f (Cx args)
 |.iR x args=>.iR (kN x) (Cx args)
 |.We tab i=>.We tab (kN i)
 |.UC k zs x=>.UC k (uk zs) (kN x)
 |.len x=>.len (kN x)
 |.app k x y=>.app k (kN x) (kN y)
 |.min xs=>.min (Cx xs)
 |.max xs=>.max (Cx xs)
 |.copy k x y=>.copy k (kN x) (kN y)
 |.B4=>.B4
 |.yH kt ok z x k=>.yH kt ok z (kN x) (kN k)
 |.zB kt x k v=>.zB kt (kN x) (kN k) (kN v)
 |.bad=>.bad
def Oz (o:O):O:=⟨o.dst,o.guard,ku o.kd⟩
def kE:E->Bool
 |.k x=>(aK x).isEmpty
 |_=>true
def kEs:List E->Bool
 |[]=>true
 |x::r=>kE x&&kEs r
def kEo:Option E->Bool
 |some x=>kE x
 |none=>true
def kPs:List (Nat × Nat × E)->Bool
 |[]=>true
 |p::r=>kE p.2.2&&kPs r
def yU:Kd->Bool
 |.mv x|.box x|.ld _ x|.mB x|.un _ x|.LF _ x|.yn _ x|.Wy _ _ x|.ext _ x|.len x|.We _ x|.UC _ _ x=>kE x
 |.pick c a b=>kE c&&(kE a&&kE b)
 |.new _=>true
 |.bad=>true
 |.B4=>true
 |.yH _ _ _ x k=>kE x&&kE k
 |.zB _ x k v=>kE x&&(kE k&&kE v)
 |.build zs ps=>(cW zs).isEmpty&&kPs ps
 |.dV _ _ zs ps=>(cW zs).isEmpty&&kPs ps
 |.st _ x y|.bin _ x y|.eq _ _ x y|.Kx _ _ x y|.sU _ x y|.DU _ _ x y|.ix _ _ _ x y|.app _ x y|.copy _ x y=>kE x&&kE y
 |.O7 _ a b=>kEs a&&kEs b
 |.EN _ x lo hi=>kE x&&(kEo lo&&kEo hi)
 |.Ic _ x hi=>kE x&&kEo hi
 |.call _ xs|.min xs|.max xs=>kEs xs
 |.iR x xs=>kE x&&kEs xs
def G0 (un:List (Nat × Nat)) (i j:Nat) (x:O) (ys:List Nat) (q:O):Bool:=mem i ys||((!jH i i un&&!jH j j un)&&(iY x q&&((still x.kd&&still q.kd)||jH i j un)))
def uq (un:List (Nat × Nat)) (j:Nat) (ys:List Nat) (q:O):Nat->List O->Bool
 |_,[]=>true
 |i,x::r=>G0 un i j x ys q&&uq un j ys q (i+1) r
def nI (un:List (Nat × Nat)) (BA:List (List Nat)) (seen:List O):List Oper->List O->Bool
 |y::r,q::s=>yU q.kd&&((direct y).all fun i=>decide (i<seen.length))&&uq un seen.length (Hm BA y) q 0 seen&&nI un (BA++[Hm BA y]) (seen++[q]) r s
 |_,_=>true
def rN (P:Program) (N:Nat) (ops:Array Oper):List Oper->List O->Bool
 |[],[]=>true
 |o::r,q::s=>K8 P N ops o (Oz q)&&rN P N ops r s
 |_,_=>false
def H8 (P:Program) (N:Nat):Code->C->Bool
 |.skip,.skip=>true
 |.ret,.ret=>true
 |.exit i,.exit j=>decide (i=j)
 |.region _ ops d,.rX os dr un _=>decide (d=dr)&&rN P N ops ops.toList os&&(!dr||nI un [] [] ops.toList os)
 |.seq a b,.seq x y=>H8 P N a x&&H8 P N b y
 |.cond c a b,.cond c' x y=>cM c (kN c')&&H8 P N a x&&H8 P N b y
 |.block i b,.aJ j x=>decide (i=j)&&H8 P N b x
 |.loop b,.loop x=>H8 P N b x
 |.label _,.skip=>true
 |.scope b,.seq .skip x=>H8 P N b x
 |_,_=>false
def cV (P:Program) (fn:Func) (q:gH):Bool:=
 decide (fn.ntmps = q.n) && decide (fn.ntmps <= eY) && !(fn.name == "runtime.NumGoroutine") && DG P fn.results.toList q.res && (match fn.body with
  |some c=>H8 P q.n c q.body
  |none=>false)
structure eR (P:Program) (c:dO):Prop where
 mixed:P.follows .mixedOrders=true
 fn:∀f m q,c.fn f=some (m,q)->∃fn,P.funcs[f]?=some fn/\cV P fn q=true
end Go.Bm
