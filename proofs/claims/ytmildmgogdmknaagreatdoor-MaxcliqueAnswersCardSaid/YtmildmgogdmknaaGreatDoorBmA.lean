/- The machine by value: a slice that is owned is a value, too; others that refer to it borrow it from its place. -/
import Derived.Test.YtmildmgogdmknaaGreatDoorMa
set_option linter.unusedVariables false

open Bool renaming and_eq_true → ae, false_eq_true → bz
open Nat renaming beq → lR, eq_of_beq_eq_true → cP
namespace Go.Bm
open Go.Am

structure Md where
 sh:Bool
 ow:Bool
 cl:Bool
 deriving Inhabited
structure fe where
 fn:Nat->Option (Md × fK)
 gl:Nat->List AV
 orc:Nat->Option (List AV->Heap->Option (AV × Heap))
 inp:Nat->Option (Nat->List AV->List AV->Option (List AV × Option Nat))
 eat:Nat->Option (Nat->List AV->List AV->Option (List AV)):=fun _=>none
 loc:Nat->Bool:=fun _=>false
 emp:Nat->Bool:=fun _=>false
 mov:Nat->Option Nat:=fun _=>none

def fR:Nat:=1000000
def m7:Nat:=500000
def VL:Nat:=1000000
def yG (b j:Nat):Nat:=b+(j+1)*VL
def Ru (b x:Nat):Bool:=decide (VL<=x)&&(decide (b<=x)&&decide ((x-b)%VL=0))
def oe (b:Nat):List Nat->Bool
 |[]=>false
 |x::r=>decide (x=b)||(Ru b x||oe b r)
def marks:List Nat->List Nat
 |[]=>[]
 |i::r=>(i+m7)::marks r

/-! Values -/
mutual
def cZ (g:AV->AV):AV->AV
 |.eE k p off len=>g (.eE k p off len)
 |.fP k p i off=>g (.fP k p i off)
 |.agg cs=>.agg (dq g cs)
 |.dJ cs=>.dJ (dq g cs)
 |.func f a b=>.func f (dq g a) (dq g b)
 |.any=>.any|.undef=>.undef|.gq=>.gq|.gz=>.gz|.dO=>.dO
 |.int k n=>.int k n|.bool b=>.bool b|.str s=>.str s
 |.list k xs=>.list k xs|.dV cs=>.dV cs|.ptr b off=>.ptr b off|.sl k b off len=>.sl k b off len
 |.own k xs=>.own k xs
def dq (g:AV->AV):List AV->List AV
 |[]=>[]
 |x::r=>cZ g x::dq g r
end
mutual
def aU:AV->List Rt
 |.eE _ p _ _=>[p]
 |.fP _ p _ _=>[p]
 |.agg cs=>dL cs
 |.dJ cs=>dL cs
 |.func _ a b=>dL a++dL b
 |_=>[]
def dL:List AV->List Rt
 |[]=>[]
 |x::r=>aU x++dL r
end
mutual
def pl:AV->Bool
 |.own _ _|.eE _ _ _ _|.fP _ _ _ _|.ptr _ _|.sl _ _ _ _=>false
 |.agg cs=>dP cs
 |.dJ cs=>dP cs
 |.func _ a b=>dP a&&dP b
 |_=>true
def dP:List AV->Bool
 |[]=>true
 |x::r=>pl x&&dP r
end
def fz (x:AV):Bool:=x.leaf&&pl x
def U7:List AV->Bool
 |[]=>true
 |x::r=>fz x&&U7 r
def bZ:List AV->Bool
 |[]=>false
 |.own _ _::_=>true
 |_::r=>bZ r
def bX:AV->Bool
 |.own _ _=>true
 |.agg cs=>bZ cs
 |_=>false
mutual
def clean:AV->Bool
 |.list _ xs=>xs.isEmpty
 |.dV _|.any|.func _ _ _|.eE _ _ _ _|.fP _ _ _ _|.ptr _ _|.sl _ _ _ _=>false
 |.own _ xs=>gK xs
 |.agg cs=>gK cs
 |.dJ cs=>gK cs
 |_=>true
def gK:List AV->Bool
 |[]=>true
 |x::r=>clean x&&gK r
end

/-! Places -/
def fw (f:Nat->Rt):Nat->List AV->List AV
 |_,[]=>[]
 |j,.own k xs::r=>.eE k (f j) 0 xs.length::fw f (j+1) r
 |j,x::r=>x::fw f (j+1) r
def fJ (i:Nat):AV->AV
 |.own k xs=>.eE k (.s i) 0 xs.length
 |.agg cs=>.agg (fw (.sc i) 0 cs)
 |v=>v
def at_ (s:St):Rt->Option AV
 |.s i=>some (get s.env i)
 |.sc i j=>match get s.env i with
   |.agg cs=>cs[j]?
   |_=>none
 |.c b j=>match aO s.H b with
   |some cs=>cs[j]?
   |none=>none
def aD (s:St) (p:Rt):Option (Nat × List AV):=
 match at_ s p with
 |some (.own k xs)=>some (k,xs)
 |_=>none
def setAt (s:St) (p:Rt) (v:AV):St:=
 match p with
 |.s i=>⟨put s.env i v,s.H⟩
 |.sc i j=>match get s.env i with
   |.agg cs=>⟨put s.env i (.agg (cs.set j v)),s.H⟩
   |_=>s
 |.c b j=>match aO s.H b with
   |some cs=>⟨s.env,s.H.set b (some (cs.set j v))⟩
   |none=>s
def k8 (g:AV->AV):Env->Env
 |[]=>[]
 |(i,v)::r=>(i,cZ g v)::k8 g r
def fI (g:AV->AV):Heap->Heap
 |[]=>[]
 |none::r=>none::fI g r
 |some cs::r=>some (dq g cs)::fI g r
def cE (g:AV->AV) (s:St):St:=⟨k8 g s.env,fI g s.H⟩

def sw (p:Rt):AV->AV
 |.eE k q off len=>if q=p then .any else .eE k q off len
 |.fP k q i off=>if q=p then .any else .fP k q i off
 |v=>v
def rt (p q:Rt) (n:Nat):AV->AV
 |.eE k r off len=>if r=p then (if off+len<=n then .eE k q off len else .any) else .eE k r off len
 |.fP k r i off=>if r=p then (if i<n then .fP k q i off else .any) else .fP k r i off
 |v=>v
def fb (p:Rt) (k:Nat) (xs:List AV):AV->AV
 |.eE k' q off len=>if q=p then (if k'=k/\off+len<=xs.length then .list k ((xs.drop off).take len) else .any) else .eE k' q off len
 |.fP k' q i off=>if q=p then (if k'=k then match xs[i]? with
   |some x=>.dV (x.cells.drop off)
   |none=>.any
   else .any) else .fP k' q i off
 |v=>v
def LB (s:St) (p:Rt):St:=
 match aD s p with
 |some (k,xs)=>setAt (cE (fb p k xs) s) p (.list k xs)
 |none=>s
def eO:List Rt->St->St
 |[],s=>s
 |p::r,s=>eO r (LB s p)

def afE (p:Rt) (q:Rt):AV->Option Rt
 |.eE _ r _ _=>if r=p then some q else none
 |_=>none
def borC (p:Rt) (f:Nat->Rt):Nat->List AV->Option Rt
 |_,[]=>none
 |j,x::r=>match afE p (f j) x with
   |some y=>some y
   |none=>borC p f (j+1) r
def borS (p:Rt) (i:Nat):AV->Option Rt
 |.agg cs=>borC p (.sc i) 0 cs
 |v=>afE p (.s i) v
def borE (p:Rt):Env->Option Rt
 |[]=>none
 |(i,v)::r=>match borS p i v with
   |some y=>some y
   |none=>borE p r
def borH (p:Rt):Nat->Heap->Option Rt
 |_,[]=>none
 |b,none::r=>borH p (b+1) r
 |b,some cs::r=>match borC p (.c b) 0 cs with
   |some y=>some y
   |none=>borH p (b+1) r
def Ve (p:Rt) (s:St):Option Rt:=
 match borS p fR (get s.env fR) with
 |some y=>some y
 |none=>match borE p s.env with
   |some y=>some y
   |none=>borH p 0 s.H
def rel (s:St) (p:Rt):St:=
 match aD s p with
 |none=>s
 |some (k,xs)=>match Ve p s with
   |none=>setAt (cE (sw p) s) p .any
   |some q=>match at_ s q with
     |some (.eE _ r 0 len)=>if r=p then setAt (setAt (cE (rt p q len) s) p .any) q (.own k (xs.take len)) else LB s p
     |_=>LB s p
def Mz (i:Nat):Nat->List AV->St->St
 |_,[],s=>s
 |j,.own _ _::r,s=>Mz i (j+1) r (rel s (.sc i j))
 |j,_::r,s=>Mz i (j+1) r s
def Fj (s:St) (i:Nat):St:=
 match get s.env i with
 |.own _ _=>rel s (.s i)
 |.agg cs=>Mz i 0 cs s
 |_=>s
def pz (keep:List Nat):Env->St->St
 |[],s=>s
 |(i,_)::r,s=>pz keep r (if mem i keep then s else Fj s i)
def tZ (keep:List Nat):Env->Bool
 |[]=>false
 |(i,v)::r=>(!mem i keep&&bX v)||tZ keep r

def kI (i d:Nat):Rt->Rt
 |.s j=>if j=i then .s d else .s j
 |.sc j l=>if j=i then .sc d l else .sc j l
 |.c b j=>.c b j
def mvB (i d:Nat):AV->AV
 |.eE k p off len=>.eE k (kI i d p) off len
 |.fP k p l off=>.fP k (kI i d p) l off
 |v=>v
def RJ (s:St) (d:Nat):St:=
 let s1:=cE (mvB fR d) s
 ⟨put (put s1.env fR .any) d (get s1.env fR),s1.H⟩
def Aw (f:Rt->Bool):List Rt->Bool
 |[]=>false
 |p::r=>f p||Aw f r
def Mc (f:Rt->Bool):Env->Bool
 |[]=>false
 |(_,v)::r=>Aw f (aU v)||Mc f r
def Iq (f:Rt->Bool):Heap->Bool
 |[]=>false
 |none::r=>Iq f r
 |some cs::r=>Aw f (dL cs)||Iq f r
def Me (f:Rt->Bool) (s:St) (v:AV):Bool:=Aw f (aU v)||(Mc f s.env||Iq f s.H)
def bJ (d:Nat):Rt->Bool
 |.s i=>decide (i=d)
 |.sc i _=>decide (i=d)
 |.c _ _=>false
def dw (b off k:Nat):Rt->Bool
 |.c c j=>decide (c=b)&&(decide (off<=j)&&decide (j<off+k))
 |_=>false
def SF (s:St) (d:Nat) (v:AV):Bool:=bX (get s.env d)&&Me (bJ d) s v
def putB (s:St) (d:Nat) (v:AV):Option St:=
 if SF s d v then
  match get s.env fR with
  |.any=>if bX (get (Fj ⟨put s.env fR v,s.H⟩ d).env d) then none else some (RJ (Fj ⟨put s.env fR v,s.H⟩ d) d)
  |_=>none
 else some ⟨put s.env d v,s.H⟩
def B8 (s:St) (d:Option Nat) (v:AV):Option St:=
 match d with
 |some d=>putB s d v
 |none=>some s

/-! Boxes that nobody refers to -/
mutual
def kM (b:Nat):AV->Bool
 |.ptr c _=>decide (c≠b)
 |.sl _ c _ _=>decide (c≠b)
 |.eE _ (.c d _) _ _=>decide (d≠b)
 |.fP _ (.c d _) _ _=>decide (d≠b)
 |.agg cs=>iB b cs
 |.dJ cs=>iB b cs
 |.func _ x y=>iB b x&&iB b y
 |_=>true
def iB (b:Nat):List AV->Bool
 |[]=>true
 |x::r=>kM b x&&iB b r
end
def lM (b:Nat):Env->Bool
 |[]=>true
 |(_,v)::r=>kM b v&&lM b r
def kB (b:Nat):Heap->Bool
 |[]=>true
 |none::r=>kB b r
 |some cs::r=>iB b cs&&kB b r
def trim (base:Nat) (env:Env):Nat->Heap->Heap
 |0,H=>H
 |n+1,H=>if base<=n/\H.length=n+1/\lM n env=true/\kB n (H.take n)=true then trim base env n (H.take n) else H
def endK (base:Nat) (keep:List Nat) (s:St):St:=⟨td keep s.env,trim base (td keep s.env) s.H.length s.H⟩
def Xr (base:Nat) (keep:List Nat) (s:St):Option St:=
 if tZ keep s.env then
  if tZ keep (pz keep s.env s).env then none else some (endK base keep (pz keep s.env s))
 else some (endK base keep s)

/-! Operations -/
def bC (c:fe) (env:Env):E->AV
 |.t i=>fJ i (get env i)
 |.k x=>x
 |.g i=>.dV (c.gl i)
def dX (c:fe) (env:Env):List E->List AV
 |[]=>[]
 |x::r=>bC c env x::dX c env r
def cont (s:St) (k:Nat):AV->Option (List AV)
 |.list k' xs=>if k'=k then some xs else none
 |.own _ []=>some []
 |.eE k' p off len=>match aD s p with
   |some (A6,xs)=>if k'=k/\A6=k/\off+len<=xs.length then some ((xs.drop off).take len) else none
   |none=>none
 |_=>none
def Vb:AV->Option AV
 |.own k xs=>some (.list k xs)
 |x=>if fz x then some x else none
def vT:List AV->Option (List AV)
 |[]=>some []
 |x::r=>match Vb x,vT r with
   |some y,some ys=>some (y::ys)
   |_,_=>none
def U9 (s:St) (k b off len:Nat):Option AV:=
 match aO s.H b with
 |some cs=>if k=1/\off+len<=cs.length then match vT ((cs.drop off).take len) with
   |some ys=>some (.list 1 ys)
   |none=>none
   else none
 |none=>none
mutual
def mZ (sh:Bool) (s:St):AV->Option AV
 |.eE k p off len=>match aD s p with
   |some (k',xs)=>if k'=k/\off+len<=xs.length then some (.list k ((xs.drop off).take len)) else none
   |none=>none
 |.own _ _=>none
 |.agg cs=>match Io sh s cs with
   |some ds=>some (.agg ds)
   |none=>none
 |.dJ cs=>match Io sh s cs with
   |some ds=>some (.dJ ds)
   |none=>none
 |.func f a b=>match Io sh s a,Io sh s b with
   |some a',some b'=>some (.func f a' b')
   |_,_=>none
 |.ptr b off=>if sh then some (.ptr b off) else none
 |.fP _ _ _ _=>none
 |.sl _ _ _ _=>none
 |.any=>none
 |x=>some x
def Io (sh:Bool) (s:St):List AV->Option (List AV)
 |[]=>some []
 |x::r=>match mZ sh s x,Io sh s r with
   |some y,some ys=>some (y::ys)
   |_,_=>none
end
mutual
def Xo (s:St):AV->Option AV
 |.sl k b off len=>U9 s k b off len
 |.dJ cs=>match Pk s cs with
   |some ds=>some (.dJ ds)
   |none=>none
 |x=>mZ false s x
def Pk (s:St):List AV->Option (List AV)
 |[]=>some []
 |x::r=>match Xo s x,Pk s r with
   |some y,some ys=>some (y::ys)
   |_,_=>none
end
def eV:AV->AV
 |.own k []=>.list k []
 |v=>v
def xh (s:St):List AV->Option (List AV)
 |[]=>some []
 |.own k []::r=>match xh s r with
   |some ys=>some (.list k []::ys)
   |none=>none
 |.sl k b off len::r=>match U9 s k b off len,xh s r with
   |some y,some ys=>some (y::ys)
   |_,_=>none
 |x::r=>match mZ false s x,xh s r with
   |some y,some ys=>some (y::ys)
   |_,_=>none
def Jm:List AV->List Rt
 |[]=>[]
 |.sl _ b _ _::r=>.c b 1::Jm r
 |_::r=>Jm r
mutual
def fu:AV->Bool
 |.own _ _|.eE _ _ _ _|.fP _ _ _ _=>false
 |.agg cs=>cX cs
 |.dJ cs=>cX cs
 |.func _ a b=>cX a&&cX b
 |_=>true
def cX:List AV->Bool
 |[]=>true
 |x::r=>fu x&&cX r
end
def xb:AV->Option Nat
 |.dO=>some 0
 |.own _ []=>some 0
 |.list _ xs=>some xs.length
 |.eE _ _ _ len=>some len
 |.sl _ _ _ len=>some len
 |_=>none
def DK (c:fe) (env:Env) (dflt hi:Nat):Option E->Option Nat
 |none=>some dflt
 |some x=>bnd (bC c env x) hi
def rO (c:fe) (env:Env):List AV->List (Nat × Nat × E)->Option (List AV)
 |zs,[]=>some zs
 |zs,(off,sz,x)::r=>
   if (bC c env x).cells.length=sz/\off+sz<=zs.length/\bG (bC c env x).cells=true then rO c env (kg zs off (bC c env x).cells) r else none
def iZ:Et->AV->Option Bool
 |.WN,.dO=>some true
 |.WN,.eE _ _ _ len=>if len=0 then none else some false
 |.WN,.list _ (_::_)=>some false
 |.WN,.sl _ _ _ _=>some false
 |.Kz,.gq=>some true
 |.Kz,.ptr _ _=>some false
 |.Kz,.dV _=>some false
 |.nfn,.gz=>some true
 |.nfn,.func _ _ _=>some false
 |_,_=>none
def eqB:Et->AV->AV->Option Bool
 |.bool,.bool a,.bool b=>some (a == b)
 |.str l,.agg xs,.agg ys=>Fi l xs ys
 |.WN,x,.own _ []=>iZ .WN x
 |.WN,x,.dO=>iZ .WN x
 |.Kz,x,.gq=>iZ .Kz x
 |.nfn,x,.gz=>iZ .nfn x
 |_,_,_=>none
def P9 (ag:Option Nat) (cs:List AV):Option AV:=
 match FN ag cs with
 |some v=>if bX v then none else some v
 |none=>none
def WE (c:fe) (env:Env):Kd->Option AV
 |.mv x=>some (bC c env x)
 |.pick t a b=>match bC c env t with
   |.bool t=>some (if t then bC c env a else bC c env b)
   |_=>none
 |.build zs ps=>match rO c env zs ps with
   |some cs=>some (.agg cs)
   |none=>none
 |.nK x=>match bC c env x with
   |.ptr b off=>some (.ptr b off)
   |.dV cs=>some (.dV cs)
   |.func (.func f) a b=>some (.func (.func f) a b)
   |_=>none
 |.bin op x y=>kr op (bC c env x) (bC c env y)
 |.eq ng t x y=>match eqB t (bC c env x) (bC c env y) with
   |some e=>some (.bool (if ng then !e else e))
   |none=>none
 |.un op x=>We op (bC c env x)
 |.HX k x=>match bC c env x with
   |.int _ n=>some (.int k (k.wrap n))
   |_=>none
 |.VP fn a b=>if bZ (dX c env a++dX c env b) then none else some (.func fn (dX c env a) (dX c env b))
 |.D5 k x lo hi=>match xb (bC c env x) with
   |some n=>match DK c env n n hi with
     |some h=>match DK c env 0 h lo with
       |some l=>match bC c env x with
         |.own k' xs=>if k'=k then some (.own k xs) else none
         |.list k' xs=>if k'=k then some (.list k ((xs.take h).drop l)) else none
         |.eE k' p off _=>if k'=k then some (.eE k p (off+l) (h-l)) else none
         |.sl k' b off _=>if k'=k then some (.sl k b (off+l*k) (h-l)) else none
         |_=>none
       |none=>none
     |none=>none
   |none=>none
 |.fk off x=>match bC c env x with
   |.ptr b o=>some (.ptr b (o+off))
   |.dV cs=>some (.dV (cs.drop off))
   |.fP k p i o=>some (.fP k p i (o+off))
   |_=>none
 |.Nd n x hi=>match hi with
   |none=>match bC c env x with
     |.dV cs=>if n<=cs.length/\bG (cs.take n)=true then some (.list 1 (cs.take n)) else none
     |_=>none
   |some _=>none
 |.fld off ag x=>match bC c env x with
   |.agg cs=>P9 ag (cs.drop off)
   |_=>none
 |.fm k x i=>match bC c env x with
   |.list k' xs=>match idx (bC c env i) xs.length with
     |some j=>if k'=k then match xs[j]? with
       |some v=>some (.dV v.cells)
       |none=>none
       else none
     |none=>none
   |.eE k' p off len=>match idx (bC c env i) len with
     |some j=>if k'=k then some (.fP k p (off+j) 0) else none
     |none=>none
   |.sl k' b off len=>match idx (bC c env i) len with
     |some j=>if k'=k then some (.ptr b (off+j*k)) else none
     |none=>none
   |_=>none
 |.Ig n k x i=>match idx (bC c env i) n with
   |some j=>match bC c env x with
     |.ptr b off=>some (.ptr b (off+j*k))
     |.dV cs=>some (.dV (cs.drop (j*k)))
     |.fP k' p l off=>some (.fP k' p l (off+j*k))
     |_=>none
   |none=>none
 |.ix n k ag x i=>match idx (bC c env i) n with
   |some j=>match bC c env x with
     |.agg cs=>P9 ag (cs.drop (j*k))
     |_=>none
   |none=>none
 |.ixs tab i=>match idx (bC c env i) tab.length with
   |some j=>match tab[j]? with
     |some v=>some (.int .u8 v)
     |none=>none
   |none=>none
 |.ext i x=>match bC c env x with
   |.dJ vs=>match vs[i]? with
     |some v=>if bX v then none else some v
     |none=>none
   |_=>none
 |.len x=>match xb (bC c env x) with
   |some n=>some (.int .i64 n)
   |none=>none
 |.min xs=>uJ false (dX c env xs)
 |.max xs=>uJ true (dX c env xs)
 |_=>none

def iN (c:fe) (env:Env):List (Nat × Nat × E)->List Rt
 |[]=>[]
 |(_,_,x)::r=>aU (bC c env x)++iN c env r
inductive Fq where
 |no|rc (b j:Nat)|rd (ps:List Rt)|al (n:Nat)|wr (sl:List Nat) (bs:Option (List Nat))|all|sp|bo (ps:List Rt)|lw (b:Nat)
 deriving Inhabited
def Ae (p:Rt):List Rt->Bool
 |[]=>false
 |q::r=>decide (q=p)||Ae p r
def isRoot (p:Rt) (i:Nat):Bool:=
 match p with
 |.s j=>decide (j=i)
 |.sc j _=>decide (j=i)
 |.c _ _=>false
def nf (p:Rt):Env->List Nat
 |[]=>[]
 |(i,v)::r=>if Ae p (aU v)||isRoot p i then i::nf p r else nf p r
def sO (p:Rt):Nat->Heap->List Nat
 |_,[]=>[]
 |b,none::r=>sO p (b+1) r
 |b,some cs::r=>if Ae p (dL cs) then b::sO p (b+1) r else sO p (b+1) r
def dt:List Rt->Bool
 |[]=>false
 |.c _ _::_=>true
 |_::r=>dt r
def dD:Env->List Nat
 |[]=>[]
 |(i,v)::r=>if dt (aU v) then i::dD r else dD r
def Su (k:Nat) (x:AV) (off:Nat) (vs:List AV):AV:=if off=0/\vs.length=k then el vs else el (kg x.cells off vs)
def Dj (s:St) (ag:Option Nat):AV->Option (AV × List Rt)
 |.dV cs=>match P9 ag cs with
   |some v=>some (v,[])
   |none=>none
 |.ptr b off=>match aO s.H b with
   |some cs=>match P9 ag ((fw (.c b) 0 cs).drop off) with
     |some v=>some (v,[.c b (if (aU v).isEmpty then 1 else 0)])
     |none=>none
   |none=>none
 |.fP k p i off=>match aD s p with
   |some (k',xs)=>if k'=k then match xs[i]? with
     |some x=>match P9 ag (x.cells.drop off) with
       |some v=>some (v,[p])
       |none=>none
     |none=>none
     else none
   |none=>none
 |_=>none
def kG (b:Nat):Nat->Nat->St->St
 |_,0,s=>s
 |j,n+1,s=>kG b (j+1) n (match aD s (.c b j) with
   |some _=>rel s (.c b j)
   |none=>s)
def eX (i b off:Nat):Rt->Rt
 |.s j=>if j=i then .c b off else .s j
 |.sc j l=>if j=i then .c b (off+l) else .sc j l
 |.c d j=>.c d j
def fQ (i b off:Nat):AV->AV
 |.eE k p o len=>.eE k (eX i b off p) o len
 |.fP k p l o=>.fP k (eX i b off p) l o
 |v=>v
def eZ (s:St) (b off k:Nat):Option St:=
 match aO (cE (fQ fR b off) s).H b with
 |some cs=>if (get (cE (fQ fR b off) s).env fR).cells.length=k/\off+k<=cs.length/\bZ ((cs.drop off).take k)=false/\bG (get (cE (fQ fR b off) s).env fR).cells=true then
   some ⟨put (cE (fQ fR b off) s).env fR .any,(cE (fQ fR b off) s).H.set b (some (kg cs off (get (cE (fQ fR b off) s).env fR).cells))⟩
   else none
 |none=>none
def Bv (s:St) (b off k:Nat) (v:AV):Option (St × Fq):=
 match aO s.H b with
 |some cs=>if v.cells.length=k/\off+k<=cs.length/\bG v.cells=true then
   if bZ ((cs.drop off).take k)&&Me (dw b off k) s v then
    match get s.env fR with
    |.any=>match eZ (kG b off k ⟨put s.env fR v,s.H⟩) b off k with
      |some s'=>some (s',.all)
      |none=>none
    |_=>none
   else some (⟨s.env,s.H.set b (some (kg cs off v.cells))⟩,.wr [] (some [b]))
   else none
 |none=>none
def rootOf:Rt->List Nat
 |.s i=>[i]
 |.sc i _=>[i]
 |.c _ _=>[]
def lY:Rt->List Nat
 |.c b _=>[b]
 |_=>[]
def aaC:Rt->List Nat
 |.c b _=>[yG b 99999]
 |_=>[]
def VO (s:St) (k:Nat) (a v:AV):Option (St × Fq):=
 match a with
 |.ptr b off=>Bv s b off k v
 |.fP k' p i off=>match aD s p with
   |some (A6,xs)=>if A6=k' then match xs[i]? with
     |some x=>if v.cells.length=k/\off+k<=k'/\U7 v.cells=true then some (setAt s p (.own k' (xs.set i (Su k' x off v.cells))),.wr (marks (rootOf p)) (some (aaC p))) else none
     |none=>none
     else none
   |none=>none
 |_=>none

def iX:AV->AV
 |.eE _ (.c _ _) _ _=>.any
 |.fP _ (.c _ _) _ _=>.any
 |x=>x
def cC:Rt->Bool
 |.c _ _=>false
 |_=>true
def fa:Heap->Bool
 |[]=>true
 |none::_=>false
 |some cs::r=>!Aw cC (dL cs)&&fa r
def iT:AV->AV
 |.eE k (.c b j) off len=>.eE k (.c b j) off len
 |.fP k (.c b j) i off=>.fP k (.c b j) i off
 |.eE _ _ _ _=>.any
 |.fP _ _ _ _=>.any
 |x=>x
def fnE:Fn->Fn->Bool
 |.func f,y=>match y with|.func g=>lR f g|_=>false
 |_,_=>false
mutual
def o9:AV->AV->Bool
 |.any,y=>match y with|.any=>true|_=>false
 |.undef,y=>match y with|.undef=>true|_=>false
 |.gq,y=>match y with|.gq=>true|_=>false
 |.gz,y=>match y with|.gz=>true|_=>false
 |.dO,y=>match y with|.dO=>true|_=>false
 |.int k n,y=>match y with|.int k' n'=>decide (k=k')&&decide (n=n')|_=>false
 |.bool b,y=>match y with|.bool b'=>b == b'|_=>false
 |.str _,_=>false
 |.agg x,y=>match y with|.agg x'=>jS x x'|_=>false
 |.dJ x,y=>match y with|.dJ x'=>jS x x'|_=>false
 |.list k x,y=>match y with|.list k' x'=>lR k k'&&jS x x'|_=>false
 |.dV x,y=>match y with|.dV x'=>jS x x'|_=>false
 |.ptr b o,y=>match y with|.ptr b' o'=>lR b b'&&lR o o'|_=>false
 |.sl k b o l,y=>match y with|.sl k' b' o' l'=>(lR k k'&&lR b b')&&(lR o o'&&lR l l')|_=>false
 |.func f a b,y=>match y with|.func f' a' b'=>fnE f f'&&(jS a a'&&jS b b')|_=>false
 |.own k x,y=>match y with|.own k' x'=>lR k k'&&jS x x'|_=>false
 |.eE k p o l,y=>match y with|.eE k' p' o' l'=>(lR k k'&&decide (p=p'))&&(lR o o'&&lR l l')|_=>false
 |.fP k p i o,y=>match y with|.fP k' p' i' o'=>(lR k k'&&decide (p=p'))&&(lR i i'&&lR o o')|_=>false
def jS:List AV->List AV->Bool
 |[],y=>match y with|[]=>true|_=>false
 |a::r,y=>match y with|b::s=>o9 a b&&jS r s|_=>false
end
theorem alN:∀{f g:Fn},fnE f g=true->f=g:=by
 intro f g h;cases f<;>cases g<;>simp only[fnE,bz] at h
 rw[cP h]
mutual
theorem amb:∀(a b:AV),o9 a b=true->a=b
 |.any,b,h=>by cases b<;>first|rfl|(simp[o9] at h; done)
 |.undef,b,h=>by cases b<;>first|rfl|(simp[o9] at h; done)
 |.gq,b,h=>by cases b<;>first|rfl|(simp[o9] at h; done)
 |.gz,b,h=>by cases b<;>first|rfl|(simp[o9] at h; done)
 |.dO,b,h=>by cases b<;>first|rfl|(simp[o9] at h; done)
 |.int k n,b,h=>by
   cases b<;>first|(simp[o9] at h; done)|skip
   simp only[o9,ae,decide_eq_true_eq] at h;rw[h.1,h.2]
 |.bool x,b,h=>by
   cases b<;>first|(simp[o9] at h; done)|skip
   simp only[o9,beq_iff_eq] at h;rw[h]
 |.str _,b,h=>by simp[o9] at h
 |.agg x,b,h=>by
   cases b<;>first|(simp[o9] at h; done)|skip
   simp only[o9] at h;rw[pB _ _ h]
 |.dJ x,b,h=>by
   cases b<;>first|(simp[o9] at h; done)|skip
   simp only[o9] at h;rw[pB _ _ h]
 |.dV x,b,h=>by
   cases b<;>first|(simp[o9] at h; done)|skip
   simp only[o9] at h;rw[pB _ _ h]
 |.list k x,b,h=>by
   cases b<;>first|(simp[o9] at h; done)|skip
   simp only[o9,ae] at h;rw[cP h.1,pB _ _ h.2]
 |.own k x,b,h=>by
   cases b<;>first|(simp[o9] at h; done)|skip
   simp only[o9,ae] at h;rw[cP h.1,pB _ _ h.2]
 |.ptr k x,b,h=>by
   cases b<;>first|(simp[o9] at h; done)|skip
   simp only[o9,ae] at h;rw[cP h.1,cP h.2]
 |.sl k x y z,b,h=>by
   cases b<;>first|(simp[o9] at h; done)|skip
   simp only[o9,ae] at h;rw[cP h.1.1,cP h.1.2,cP h.2.1,cP h.2.2]
 |.func f x y,b,h=>by
   cases b<;>first|(simp[o9] at h; done)|skip
   simp only[o9,ae] at h;rw[alN h.1,pB _ _ h.2.1,pB _ _ h.2.2]
 |.eE k x y z,b,h=>by
   cases b<;>first|(simp[o9] at h; done)|skip
   simp only[o9,ae,decide_eq_true_eq] at h;rw[cP h.1.1,h.1.2,cP h.2.1,cP h.2.2]
 |.fP k x y z,b,h=>by
   cases b<;>first|(simp[o9] at h; done)|skip
   simp only[o9,ae,decide_eq_true_eq] at h;rw[cP h.1.1,h.1.2,cP h.2.1,cP h.2.2]
theorem pB:∀(x y:List AV),jS x y=true->x=y
 |[],y,h=>by cases y<;>first|rfl|(simp[jS] at h; done)
 |a::r,y,h=>by
   cases y with
   |nil=>simp[jS] at h
   |cons b s=>
     simp only[jS,ae] at h;rw[amb _ _ h.1,pB _ _ h.2]
end
def rI:XT->XT->Bool
 |none,y=>match y with|none=>true|some _=>false
 |some x,y=>match y with|some x'=>jS x x'|none=>false
theorem aib {x y:XT} (h:rI x y=true):x=y:=by
 cases x<;>cases y<;>simp only[rI,bz] at h
 ·rfl
 ·rw[pB _ _ h]
mutual
def s5:AV->List Nat
 |.ptr b _=>[b]
 |.sl _ b _ _=>[b]
 |.agg cs=>gY cs
 |.dJ cs=>gY cs
 |.func _ a b=>gY a++gY b
 |_=>[]
def gY:List AV->List Nat
 |[]=>[]
 |x::r=>s5 x++gY r
end
def jL:XT->Bool
 |some cs=>!bZ cs&&(dL cs).isEmpty
 |none=>false
def dH (l:List Nat):Nat->Heap->Heap->Option (List Nat)
 |_,[],[]=>some []
 |b,x::H,y::H'=>match dH l (b+1) H H' with
   |some r=>if mem b l then some r else if rI x y then some (if jL x then r else (b+m7)::r) else none
   |none=>none
 |_,_,_=>none
def gR (l:List Nat):Option (List Nat)->Option (List Nat)
 |some r=>some (l++r)
 |none=>none
mutual
def ZU:AV->AV
 |.eE k p off n=>if n=0 then .list k [] else .eE k p off n
 |.agg cs=>.agg (EP cs)
 |v=>v
def EP:List AV->List AV
 |[]=>[]
 |x::r=>ZU x::EP r
end
def p9 (c:fe) (env:Env):Kd->Option (Nat × List AV)
 |.call f args=>some (f,dX c env args)
 |.jM x args=>match bC c env x with
   |.func (.func f) a b=>if bZ a||bZ b then none else some (f,a++dX c env args++b)
   |_=>none
 |_=>none
def getArgs (c:fe) (env:Env) (kd:Kd):Option (Nat × List AV):=
 match p9 c env kd with
 |some (f,args)=>some (f,if c.emp f=true then EP args else args)
 |none=>none
def TM (r:AV):Bool:=clean r&&(match r with
 |.own _ _=>true
 |r=>!bX r)
def nQ (s:St):List Rt->Fq
 |[p]=>match aD s p with
   |some _=>.wr (nf p s.env) (some (lY p++sO p 0 s.H))
   |none=>.all
 |_=>.all
def eU (c:fe) (call:Nat->List AV->Heap->Option (AV × Heap)) (kd:Kd) (s:St):Option (AV × St × Fq):=
 match getArgs c s.env kd with
 |none=>none
 |some (f,args)=>match c.fn f with
   |none=>none
   |some (md,_)=>
     if md.cl&&!md.sh then
      match xh s args with
      |none=>none
      |some ud=>match call f ud [] with
        |some (r,_)=>if TM r then some (r,s,if (dL args++Jm args).isEmpty then .no else .rd (dL args++Jm args)) else none
        |none=>none
     else match getArgs c (eO (dL args) s).env kd with
      |none=>none
      | some (f1, qd) => if f1 = f then
           if md.sh then
            if cX (qd.map eV)&&fa (eO (dL args) s).H then match call f (qd.map eV) (eO (dL args) s).H with
              |some (r,H')=>if ((aU r).isEmpty&&!bX r)&&fa H' then some (r,⟨k8 iX (eO (dL args) s).env,H'⟩,if (dL args).isEmpty then .wr (dD s.env) (gR (gY qd) (dH (gY qd) 0 (eO (dL args) s).H H')) else .all) else none
              |none=>none
            else none
           else if dP (qd.map eV) then match call f (qd.map eV) [] with
            |some (r,_)=>if pl r then some (r,eO (dL args) s,if (dL args).isEmpty then .no else nQ s (dL args)) else none
            |none=>none
           else none
        else none

def inpV (k:Nat) (p:Rt):Option Nat->AV
 |none=>.dJ []
 |some m=>.eE k p 0 m
def inpL (k:Nat):Option Nat->AV
 |none=>.dJ []
 |some _=>.list k []
def MW (k b:Nat):Option Nat->AV
 |none=>.dJ []
 |some m=>.sl k b 0 m
def cellOf:Rt->List Nat
 |.c b j=>[yG b j]
 |_=>[]
def Cj:List Rt->List Nat
 |[]=>[]
 |p::r=>rootOf p++Cj r
def anE (s:St) (p:Rt):AV->Option AV
 |.int k n=>some (.int k n)
 |.eE k q off len=>if q=p then none else match aD s q with
   |some (k',xs)=>if k'=k/\off+len<=xs.length/\gK xs=true then some (.list k ((xs.drop off).take len)) else none
   |none=>none
 |_=>none
def isFn:AV->Bool
 |.func _ _ _=>true
 |_=>false
def ajw:List AV->Bool
 |[]=>false
 |x::r=>isFn x||ajw r
def Xs (s:St) (g:Nat->List AV->List AV->Option (List AV)) (x:AV) (es:List AV):Option (AV × St × Fq):=none
def rF (c:fe) (s:St):Kd->Option (Option (AV × St × Fq))
 |.call f (x::es)=>match c.inp f with
   |none=>match c.eat f with
     |none=>none
     |some g=>some (Xs s g (bC c s.env x) (dX c s.env es))
   |some g=>some (match bC c s.env x with
     |.list k []=>if dP (dX c s.env es)=true then match g k [] (dX c s.env es) with
       |some (_,res)=>some (inpL k res,s,.wr [] (some []))
       |none=>none
       else none
     |.eE k p 0 len=>match aD s p with
       |some (k',xs)=>if k'=k/\len<=xs.length/\dP (dX c s.env es)=true then
         match g k (xs.take len) (dX c s.env es) with
         |some (ys,res)=>some (inpV k p res,setAt s p (.own k (ys++xs.drop len)),.wr (rootOf p) (some (lY p)))
         |none=>none
         else none
       |none=>none
     |.sl k b 0 len=>match aO s.H b with
       |some cs=>if k=1/\len<=cs.length/\U7 cs=true/\dP (dX c s.env es)=true then
         match g k (cs.take len) (dX c s.env es) with
         |some (ys,res)=>some (MW k b res,⟨s.env,s.H.set b (some (aI ys++cs.drop len))⟩,.all)
         |none=>none
         else none
       |none=>none
     |_=>none)
 |_=>none
def locV (c:fe) (call:Nat->List AV->Heap->Option (AV × Heap)) (s:St) (f:Nat) (es:List AV):AV->Option (AV × St × Fq)
 |.ptr b 0=>match c.fn f,aO s.H b with
   |some (md,_),some cs=>if md.sh=true/\dP es=true/\dP cs=true then match call f (.ptr 0 0::es) [some cs] with
     |some (r,[some cs'])=>if pl r=true/\dP cs'=true then some (r,⟨s.env,s.H.set b (some cs')⟩,.lw b) else none
     |_=>none
     else none
   |_,_=>none
 |_=>none
def nY (c:fe) (call:Nat->List AV->Heap->Option (AV × Heap)) (s:St):Kd->Option (Option (AV × St × Fq))
 |.call f (x::es)=>if c.loc f=true then some (locV c call s f (dX c s.env es) (bC c s.env x)) else none
 |_=>none
def TY (c:fe) (call:Nat->List AV->Heap->Option (AV × Heap)) (f i:Nat) (s1:St) (xs:List AV):Option (AV × St × Fq):=
 match c.fn f,xs[i]? with
 |some (md,_),some (.eE k p 0 len)=>match aD s1 p with
   |some (k',ys)=>if md.sh=false/\k'=k/\len=ys.length/\dP ((xs.map eV).set i .undef)=true then
     match call f ((xs.map eV).set i (.own k ys)) [] with
     |some (.own k2 zs,_)=>some (.own k2 zs,setAt (cE (sw p) s1) p .any,.all)
     |_=>none
     else none
   |none=>none
 |_,_=>none
def uI (c:fe) (call:Nat->List AV->Heap->Option (AV × Heap)) (s:St):Kd->Option (Option (AV × St × Fq))
 |.call f es=>match c.mov f with
   |some i=>some (TY c call f i (eO (dL ((dX c s.env es).set i .undef)) s) (dX c (eO (dL ((dX c s.env es).set i .undef)) s).env es))
   |none=>none
 |_=>none
def FI:Nat->List AV->Option (Nat × Nat × Nat × Nat)
 |_,[]=>none
 |i,.sl k b off len::r=>if k=1 then some (i,b,off,len) else FI (i+1) r
 |i,_::r=>FI (i+1) r
def D4 (c:fe) (call:Nat->List AV->Heap->Option (AV × Heap)) (s:St) (kd:Kd):Option (AV × St × Fq):=
 match getArgs c s.env kd with
 |none=>none
 |some (f,args)=>match c.fn f,FI 0 args with
   |some (md,_),some (i,b,off,len)=>match aO s.H b with
     | some cs => if ((md.cl = false /\ md.sh = false) /\ (off + len <= cs.length /\ U7 cs = true)) /\ dP ((args.map eV).set i .undef) = true then
         match call f ((args.map eV).set i (.list 1 ((cs.drop off).take len))) [] with
         |some (r,_)=>if pl r=true then some (r,⟨s.env,s.H.set b none⟩,.all) else none
         |none=>none
       else none
     |none=>none
   |_,_=>none
def uc (c:fe) (call:Nat->List AV->Heap->Option (AV × Heap)) (kd:Kd) (s:St):Option (AV × St × Fq):=
 match eU c call kd s with
 |some x=>some x
 |none=>D4 c call s kd
def ia (c:fe) (call:Nat->List AV->Heap->Option (AV × Heap)) (kd:Kd) (s:St):Option (AV × St × Fq):=
 match uI c call s kd with
 |some r=>r
 |none=>uc c call kd s
def dZ (c:fe) (call:Nat->List AV->Heap->Option (AV × Heap)) (kd:Kd) (s:St):Option (AV × St × Fq):=
 match rF c s kd with
 |some r=>r
 |none=>match nY c call s kd with
   |some r=>r
   |none=>ia c call kd s
def ldOK (x v:AV):Bool:=match x with
 |.ptr _ _=>true
 |_=>(aU v).isEmpty
def Aa (x v:AV) (ps:List Rt):Fq:=match x,v with
 |.ptr b off,.eE _ (.c d j) _ _=>if d=b/\j=off then .rc b off else .rd ps
 |_,_=>.rd ps
def boxZ:List AV->Option (List AV)
 |[.own k []]=>if 1000<=k then some [.own (k-1000) []] else none
 |_=>none
def Vp (p:Rt):AV->Fq
 |.eE _ q _ _=>if q=p then .wr (rootOf p) (some (lY p)) else .all
 |_=>.all
theorem Aq (p:Rt) (x:AV):Vp p x=.all\/∃ k off len,x=.eE k p off len/\Vp p x=.wr (rootOf p) (some (lY p)):=by
 unfold Vp;split
 ·rename_i k q off len;split
  ·rename_i e;subst e;exact .inr ⟨_,_,_,rfl,rfl⟩
  ·exact .inl rfl
 ·exact .inl rfl
def gH (c:fe) (call:Nat->List AV->Heap->Option (AV × Heap)) (s:St):Kd->Option (AV × St × Fq)
 |.new zs=>some (.ptr s.H.length 0,⟨s.env,s.H++[some zs]⟩,.al s.H.length)
 |.box x=>if bG (bC c s.env x).cells then some (.ptr s.H.length 0,⟨s.env,s.H++[some (bC c s.env x).cells]⟩,.al s.H.length) else none
 |.dK k n zs ps=>
   let s1:=eO (iN c s.env ps) s
   match rO c s1.env (rep zs n) ps with
   |some cs=>if U7 (cs.map eV) then some (.own k (VU k n (cs.map eV)),s1,if (iN c s.env ps).isEmpty then .no else nQ s (iN c s.env ps)) else none
   |none=>none
 |.KR k zs l cp=>match bC c s.env l,bC c s.env cp with
   |.int _ l,.int _ cp=>if 0<=l/\l<=cp/\cp<=(jx:Int) then some (match boxZ zs with
     |some z=>(.sl k s.H.length 0 l.toNat,⟨s.env,s.H++[some (rep z l.toNat)]⟩,.al s.H.length)
     |none=>(.own k (List.replicate l.toNat (el (zs.map eV))),s,.no)) else none
   |_,_=>none
 |.ld ag x=>match Dj s ag (bC c s.env x) with
   |some (v,ps)=>if ldOK (bC c s.env x) v then some (v,s,Aa (bC c s.env x) v ps) else none
   |none=>none
 |.st k a v=>match bC c s.env a with
   |.fP _ _ _ _=>
     let s1:=eO (aU (bC c s.env v)) s
     match VO s1 k (bC c s1.env a) (bC c s1.env v) with
     |some (s',f)=>some (.undef,s',if (aU (bC c s.env v)).isEmpty then f else .all)
     |none=>none
   |a=>match VO s k a (bC c s.env v) with
     |some (s',f)=>some (.undef,s',f)
     |none=>none
 |.Vv _ _ x=>match bC c s.env x with
   |.own _ []=>some (.undef,s,.no)
   |.list _ []=>some (.undef,s,.no)
   |_=>none
 |.call f args=>dZ c call (.call f args) s
 |.jM x args=>dZ c call (.jM x args) s
 |.app k x y=>match cont s k (bC c s.env y) with
   |some ys=>if bG (aI ys)=true then match bC c s.env x with
     |.own _ []=>if ys.length<=jx then some (.own k ys,s,.rd (aU (bC c s.env y))) else none
     |.eE k' p 0 len=>match aD s p with
       |some (A6,xs)=>if k'=k/\A6=k/\len<=xs.length/\len+ys.length<=jx then some (.own k (xs.take len++ys),setAt (cE (sw p) s) p .any,.wr (nf p s.env++marks (Cj (aU (bC c s.env y)))) (some (cellOf p++sO p 0 s.H))) else none
       |none=>none
     |_=>none
     else none
   |none=>none
 |.copy k x y=>match bC c s.env x with
   |.eE k' p off n=>if n=0 then (match cont s k (bC c s.env y) with
     |some ys=>if k'=k/\bG (aI ys)=true then some (.int .i64 0,s,.all) else none
     |none=>none) else match aD s p,cont s k (bC c s.env y) with
     |some (A6,xs),some ys=>if k'=k/\A6=k/\off+n<=xs.length/\bG (aI ys)=true then some (.int .i64 (min ys.length n:Nat),setAt s p (.own k (kg xs off (ys.take (min ys.length n)))),Vp p (bC c s.env y)) else none
     |_,_=>none
   |_=>none
 |.Nd n x hi=>match bC c s.env x with
   |.ptr b off=>match DK c s.env n n hi,aO s.H b with
     |some m,some cs=>if off+n<=cs.length then some (.sl 1 b off m,s,.rd [.c b 1]) else none
     |_,_=>none
   |_=>match WE c s.env (.Nd n x hi) with
     |some v=>some (v,s,.no)
     |none=>none
 |kd=>match WE c s.env kd with
   |some v=>some (v,s,.no)
   |none=>none

def cD (e:Env) (d:Option Nat) (fl:Fq):Fq:=
 match d with
 |none=>fl
 |some d=>if bX (get e d) then .sp else if (aU (get e d)).isEmpty then fl else match fl with
   |.no=>.bo []
   |.rd ps=>.bo ps
   |.rc b _=>.bo [.c b 0]
   |_=>.sp
def Fh (e:Env) (d:Option Nat) (v:AV) (s:St) (fl:Fq):Option (St × Fq):=
 match B8 s d v with
 |some s'=>some (s',cD e d fl)
 |none=>none
def tQ (c:fe) (call:Nat->List AV->Heap->Option (AV × Heap)) (s:St) (o:O):Option (St × Fq):=
 match o.guard with
 |none=>match gH c call s o.kd with
   |some (v,s',fl)=>Fh s.env o.dst v s' fl
   |none=>none
 |some (g,want)=>match get s.env g with
   |.bool b=>if b=want then
     match gH c call s o.kd with
     |some (v,s',fl)=>Fh s.env o.dst v s' fl
     |none=>none
     else Fh s.env o.dst .undef s .no
   |.undef=>Fh s.env o.dst .undef s .no
   |_=>none
def nI (c:fe) (call:Nat->List AV->Heap->Option (AV × Heap)):List O->St->Option (St × List Fq)
 |[],s=>some (s,[])
 |o::r,s=>match tQ c call s o with
   |some (s',fl)=>match nI c call r s' with
     |some (s'',rH)=>some (s'',fl::rH)
     |none=>none
   |none=>none

def still:Kd->Bool
 |.mv _|.pick _ _ _|.build _ _|.nK _|.bin _ _ _|.eq _ _ _ _|.un _ _|.HX _ _|.VP _ _ _|.D5 _ _ _ _|.fk _ _|.fld _ _ _|.fm _ _ _|.Ig _ _ _ _|.ix _ _ _ _ _|.ext _ _|.ixs _ _|.len _|.min _|.max _=>true
 |.KR _ zs _ _=>(boxZ zs).isNone
 |_=>false
def iO (n:Nat):List Rt->Bool
 |[]=>true
 |.c b _::r=>decide (b<n)&&iO n r
 |_::r=>iO n r
def iR (d:Nat):List Rt->Bool
 |[]=>true
 |.s i::r=>decide (i≠d)&&iR d r
 |.sc i _::r=>decide (i≠d)&&iR d r
 |.c _ _::r=>iR d r
def DE (d:Option Nat):Fq->Bool
 |.rd ps=>match d with
   |some d=>iR d ps
   |none=>true
 |.bo ps=>match d with
   |some d=>iR d ps
   |none=>true
 |_=>true
def s9 (b:Nat):List Rt->Bool
 |[]=>true
 |.c d _::r=>decide (d≠b)&&s9 b r
 |_::r=>s9 b r
def Fq.ok:Fq->Fq->Bool
 |.no,.no=>true
 |.no,.rd _=>true
 |.no,.al _=>true
 |.no,.wr _ _=>true
 |.rd _,.no=>true
 |.al _,.no=>true
 |.wr _ _,.no=>true
 |.rd _,.rd _=>true
 |.rd _,.wr _ _=>true
 |.wr _ _,.rd _=>true
 |.al n,.rd ps=>iO n ps
 |.rd ps,.al n=>iO n ps
 |.al n,.bo ps=>iO n ps
 |.bo ps,.al n=>iO n ps
 |.no,.bo _=>true
 |.bo _,.no=>true
 |.rd _,.bo _=>true
 |.bo _,.rd _=>true
 |.bo _,.bo _=>true
 |.no,.rc _ _=>true
 |.rc _ _,.no=>true
 |.rc _ _,.rd _=>true
 |.rd _,.rc _ _=>true
 |.rc _ _,.rc _ _=>true
 |.rc _ _,.bo _=>true
 |.bo _,.rc _ _=>true
 |.rc _ _,.wr _ _=>true
 |.wr _ _,.rc _ _=>true
 |.al n,.rc b _=>decide (b<n)
 |.rc b _,.al n=>decide (b<n)
 |.no,.lw _=>true
 |.lw _,.no=>true
 |.rd ps,.lw b=>s9 b ps
 |.lw b,.rd ps=>s9 b ps
 |.rc d _,.lw b=>decide (d≠b)
 |.lw b,.rc d _=>decide (d≠b)
 |.al n,.lw b=>decide (b<n)
 |.lw b,.al n=>decide (b<n)
 |_,_=>false
def KB (sl:List Nat):List Nat->Bool
 |[]=>true
 |i::r=>!mem i sl&&KB sl r
def rJ (sl:List Nat) (bs:Option (List Nat)):List Rt->Bool
 |[]=>true
 |.s i::r=>(!mem i sl&&!mem (i+m7) sl)&&rJ sl bs r
 |.sc i _::r=>(!mem i sl&&!mem (i+m7) sl)&&rJ sl bs r
 |.c b j::r=>(match bs with
   |some bs=>!oe b bs&&(decide (j≠0)||!mem (b+m7) bs)
   |none=>false)&&rJ sl bs r
def RY (bs:Option (List Nat)) (b j:Nat):Bool:=match bs with
 |some bs=>!mem b bs&&(!mem (b+m7) bs&&!mem (yG b j) bs)
 |none=>false
def Nq (f:Fq) (y:O) (g:Fq):Bool:=
 match f with
 |.wr sl bs=>KB sl y.reads&&(match y.dst with
   |some d=>!mem d sl&&!mem (d+m7) sl
   |none=>true)&&(match g with
   |.rd ps=>rJ sl bs ps
   |.rc b j=>RY bs b j
   |_=>true)
 |_=>true
def jH (x:O) (f:Fq) (y:O) (g:Fq):Bool:=f.ok g&&(DE x.dst g&&DE y.dst f)&&(Nq f y g&&Nq g x f)
def EL (os:List O) (rH:List Fq):List (Nat × Nat)->Bool
 |[]=>true
 |(i,j)::r=>(decide (i=j)||jH (os.getD i ⟨none,none,.min []⟩) (rH.getD i .all) (os.getD j ⟨none,none,.min []⟩) (rH.getD j .all))&&EL os rH r

def pA:Fq->Bool
 |.no|.rc _ _|.rd _|.al _|.bo _|.wr _ _|.lw _=>true
 |_=>false
def Mh (un:List (Nat × Nat)):Nat->List Fq->Bool
 |_,[]=>true
 |k,f::r=>(pA f||kL k k un)&&Mh un (k+1) r
def Pt (os:List O) (rH:List Fq) (un:List (Nat × Nat)):Bool:=Mh un 0 rH&&EL os rH un

/-! Results -/
def resV (c:fe) (s:St):Rv->Option AV
 |.t i=>some (bC c s.env (.t i))
 |.c i ag=>match Dj s ag (bC c s.env (.t i)) with
   |some (v,_)=>some v
   |none=>none
def rM (c:fe) (s:St):List Rv->Option (List AV)
 |[]=>some []
 |r::rs=>match resV c s r,rM c s rs with
   |some v,some vs=>some (v::vs)
   |_,_=>none
def Q9 (base:Nat):Rt->Bool
 |.c b _=>decide (base<=b)
 |_=>true
def Ax (base:Nat):List Rt->Bool
 |[]=>true
 |p::r=>Q9 base p&&(r.all fun q=>decide (q≠p))&&Ax base r
def Sx (s:St):AV->Option AV
 |.eE k p 0 len=>match aD s p with
   |some (k',xs)=>if k'=k/\len<=xs.length then some (.own k (xs.take len)) else none
   |none=>none
 |.own k []=>some (.own k [])
 |x=>if pl x then some x else none
def Sy (s:St) (x:AV):Option AV:=Sx s x
def iD (base:Nat) (s:St) (v:AV):Option (AV × Heap):=
 match get s.env fR with
 |.any=>
   let s2:=eO (aU v) ⟨put s.env fR v,s.H⟩
   let r:=get s2.env fR
   if fu r then some (r,trim base [(0,r)] s2.H.length (fI iT s2.H)) else none
 |_=>none
def Mp:AV->AV
 |.eE _ _ _ _=>.any
 |.own _ _=>.any
 |x=>x
def vX (s:St):Nat->List Rt->List AV->Option (List AV × Heap)
 |_,_,[]=>some ([],[])
 |n,used,.eE k (.s i) 0 len::r=>match aD s (.s i) with
   |some (k',xs)=>if k'=k/\len=xs.length/\Ae (.s i) used=false then
     if len=0 then match vX s n used r with
      |some (ys,hs)=>some (.list k []::ys,hs)
      |none=>none
     else match vX s (n+1) (.s i::used) r with
      |some (ys,hs)=>some (.sl k n 0 len::ys,some (aI xs)::hs)
      |none=>none
     else none
   |none=>none
 |n,used,x::r=>if fu x=true then match vX s n used r with
   |some (ys,hs)=>some (x::ys,hs)
   |none=>none
   else none
def finX (base:Nat) (s:St) (v:AV):Option (AV × Heap):=
 match get s.env fR,v with
 |.any,.dJ cs=>if cX (cs.map Mp)=true then
   match vX s (trim base [(0,.dJ (cs.map Mp))] s.H.length (fI iT s.H)).length [] cs with
   |some (ys,hs)=>some (.dJ ys,trim base [(0,.dJ (cs.map Mp))] s.H.length (fI iT s.H)++hs)
   |none=>none
   else none
 |_,_=>none
def bf (md:Md) (base:Nat) (s:St) (v:AV):Option (AV × Heap):=
 if md.sh then (if md.ow then finX base s v else iD base s v)
 else if md.ow then
  if Ax base (aU v) then match Sy s v with
   |some r=>some (r,[])
   |none=>none
  else none
 else match Xo s v with
  |some r=>some (r,[])
  |none=>none
def QP (c:fe) (f:Nat) (args:List AV) (H:Heap):Option (AV × Heap):=
 match c.orc f with
 |some g=>g args H
 |none=>none
def nV (c:fe) (run:Nat->C->St->Option (Ex × St)) (f:Nat) (args:List AV) (H:Heap):Option (AV × Heap):=
 match QP c f args H with
 |some x=>some x
 |none=>match c.fn f with
   |none=>none
   |some (md,fn)=>if args.length<=fn.n then
     match run H.length fn.body ⟨eC 0 args,H⟩ with
     |some (.ret,s)=>match rM c s fn.res with
       |some vs=>bf md H.length s (pF vs)
       |none=>none
     |some (.normal,s)=>match rM c s fn.res with
       |some vs=>bf md H.length s (pF vs)
       |none=>none
     |_=>none
     else none
def dm (c:fe):Nat->Nat->C->St->Option (Ex × St)
 |0,_,_,_=>none
 |n+1,base,cd,s=>match cd with
   |.skip=>some (.normal,s)
   |.ret=>some (.ret,s)
   |.exit id=>some (.exit id,s)
   |.aN os dr un keep=>match nI c (nV c (dm c n)) os s with
     |some (s',rH)=>if dr=false\/Pt os rH un=true then (match Xr base keep s' with
       |some s2=>some (.normal,s2)
       |none=>none) else none
     |none=>none
   |.seq a b=>match dm c n base a s with
     |some (.normal,s')=>dm c n base b s'
     |r=>r
   |.cond x a b=>match bC c s.env x with
     |.bool t=>if t then dm c n base a s else dm c n base b s
     |_=>none
   |.aO id b=>match dm c n base b s with
     |some (.exit id',s')=>if id'=id then some (.normal,s') else some (.exit id',s')
     |r=>r
   |.loop b=>match dm c n base b s with
     |some (.normal,s')=>dm c n base (.loop b) s'
     |r=>r
def jN (c:fe) (n:Nat) (f:Nat) (args:List AV) (H:Heap):Option (AV × Heap):=nV c (dm c n) f args H

/-! The code for the older machine: what is empty and owned is nil -/
def dnV:AV->AV
 |.own _ []=>.dO
 |v=>v
def xm:List AV->List AV
 |[]=>[]
 |x::r=>dnV x::xm r
def nT:E->E
 |.k x=>.k (dnV x)
 |x=>x
def GD:List E->List E
 |[]=>[]
 |x::r=>nT x::GD r
def dnO:Option E->Option E
 |some x=>some (nT x)
 |none=>none
def Vk:List (Nat × Nat × E)->List (Nat × Nat × E)
 |[]=>[]
 |(i,j,x)::r=>(i,j,nT x)::Vk r
def nS:Kd->Kd
 |.mv x=>.mv (nT x)
 |.pick c a b=>.pick (nT c) (nT a) (nT b)
 |.new zs=>.new (xm zs)
 |.box x=>.box (nT x)
 |.build zs ps=>.build (xm zs) (Vk ps)
 |.dK k n zs ps=>.dK k n (xm zs) (Vk ps)
 |.ld ag x=>.ld ag (nT x)
 |.st k a v=>.st k (nT a) (nT v)
 |.nK x=>.nK (nT x)
 |.bin op x y=>.bin op (nT x) (nT y)
 |.eq ng t x y=>.eq ng t (nT x) (nT y)
 |.un op x=>.un op (nT x)
 |.HX k x=>.HX k (nT x)
 |.VP fn a b=>.VP fn (GD a) (GD b)
 |.KR k zs l cp=>.KR k (xm zs) (nT l) (nT cp)
 |.D5 k x lo hi=>.D5 k (nT x) (dnO lo) (dnO hi)
 |.fk off x=>.fk off (nT x)
 |.Nd n x hi=>.Nd n (nT x) (dnO hi)
 |.fld off ag x=>.fld off ag (nT x)
 |.fm k x i=>.fm k (nT x) (nT i)
 |.Ig n k x i=>.Ig n k (nT x) (nT i)
 |.ix n k ag x i=>.ix n k ag (nT x) (nT i)
 |.ext i x=>.ext i (nT x)
 |.call f args=>.call f (GD args)
 |.jM x args=>.jM (nT x) (GD args)
 |.ixs tab i=>.ixs tab (nT i)
 |.Vv k zs x=>.Vv k (xm zs) (nT x)
 |.len x=>.len (nT x)
 |.app k x y=>.app k (nT x) (nT y)
 |.min xs=>.min (GD xs)
 |.max xs=>.max (GD xs)
 |.copy k x y=>.copy k (nT x) (nT y)
 |.bad=>.bad
def Vl (o:O):O:=⟨o.dst,o.guard,nS o.kd⟩
def kE:E->Bool
 |.k x=>(aU x).isEmpty
 |_=>true
def kEs:List E->Bool
 |[]=>true
 |x::r=>kE x&&kEs r
def kEo:Option E->Bool
 |some x=>kE x
 |none=>true
def kPs:List (Nat × Nat × E)->Bool
 |[]=>true
 |p::r=>kE p.2.2&&kPs r
def Ca:Kd->Bool
 |.mv x|.box x|.ld _ x|.nK x|.un _ x|.HX _ x|.fk _ x|.fld _ _ x|.ext _ x|.len x|.ixs _ x|.Vv _ _ x=>kE x
 |.pick c a b=>kE c&&(kE a&&kE b)
 |.new _=>true
 |.bad=>true
 |.build zs ps=>(dL zs).isEmpty&&kPs ps
 |.dK _ _ zs ps=>(dL zs).isEmpty&&kPs ps
 |.st _ x y|.bin _ x y|.eq _ _ x y|.KR _ _ x y|.fm _ x y|.Ig _ _ x y|.ix _ _ _ x y|.app _ x y|.copy _ x y=>kE x&&kE y
 |.VP _ a b=>kEs a&&kEs b
 |.D5 _ x lo hi=>kE x&&(kEo lo&&kEo hi)
 |.Nd _ x hi=>kE x&&kEo hi
 |.call _ xs|.min xs|.max xs=>kEs xs
 |.jM x xs=>kE x&&kEs xs
def LP (un:List (Nat × Nat)) (i j:Nat) (x:O) (ys:List Nat) (q:O):Bool:=mem i ys||((!kL i i un&&!kL j j un)&&(kC x q&&((still x.kd&&still q.kd)||kL i j un)))
def xp (un:List (Nat × Nat)) (j:Nat) (ys:List Nat) (q:O):Nat->List O->Bool
 |_,[]=>true
 |i,x::r=>LP un i j x ys q&&xp un j ys q (i+1) r
def oZ (un:List (Nat × Nat)) (Fw:List (List Nat)) (seen:List O):List Oper->List O->Bool
 |y::r,q::s=>Ca q.kd&&((direct y).all fun i=>decide (i<seen.length))&&xp un seen.length (Mf Fw y) q 0 seen&&oZ un (Fw++[Mf Fw y]) (seen++[q]) r s
 |_,_=>true
def tr (P:Program) (N:Nat) (ops:Array Oper):List Oper->List O->Bool
 |[],[]=>true
 |o::r,q::s=>RT P N ops o (Vl q)&&tr P N ops r s
 |_,_=>false
def Na (P:Program) (N:Nat):Code->C->Bool
 |.skip,.skip=>true
 |.ret,.ret=>true
 |.exit i,.exit j=>decide (i=j)
 |.region _ ops d,.aN os dr un _=>decide (d=dr)&&tr P N ops ops.toList os&&(!dr||oZ un [] [] ops.toList os)
 |.seq a b,.seq x y=>Na P N a x&&Na P N b y
 |.cond c a b,.cond c' x y=>dF c (nT c')&&Na P N a x&&Na P N b y
 |.block i b,.aO j x=>decide (i=j)&&Na P N b x
 |.loop b,.loop x=>Na P N b x
 |.label _,.skip=>true
 |.scope b,.seq .skip x=>Na P N b x
 |_,_=>false
def cj (P:Program) (fn:Func) (q:fK):Bool:=
 decide (fn.ntmps = q.n) && decide (fn.ntmps <= fR) && !(fn.name == "runtime.NumGoroutine") && H6 P fn.results.toList q.res && (match fn.body with
  |some c=>Na P q.n c q.body
  |none=>false)
structure gF (P:Program) (c:fe):Prop where
 mixed:P.follows .mixedOrders=true
 fn:∀f m q,c.fn f=some (m,q)->∃fn,P.funcs[f]?=some fn/\cj P fn q=true
end Go.Bm
