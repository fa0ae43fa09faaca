/- The machine by value: a slice that is owned is a value, too; others that refer to it borrow it from its place. -/
import Derived.Test.YtpimmjklbakckaaDoorMa
set_option linter.unusedVariables false

open Bool renaming and_eq_true → ae, false_eq_true → bk
open Nat renaming beq → ke, eq_of_beq_eq_true → bZ
namespace Go.Bm
open Go.Am

structure Md where
 sh:Bool
 ow:Bool
 cl:Bool
 deriving Inhabited
structure dM where
 fn:Nat->Option (Md × gR)
 gl:Nat->List AV
 orc:Nat->Option (List AV->Heap->Option (AV × Heap))
 inp:Nat->Option (Nat->List AV->List AV->Option (List AV × Option Nat))
 eat:Nat->Option (Nat->List AV->List AV->Option (List AV)):=fun _=>none
 loc:Nat->Bool:=fun _=>false
 emp:Nat->Bool:=fun _=>false
 mov:Nat->Option Nat:=fun _=>none

def eW:Nat:=1000000
def kZ:Nat:=500000
def Mx:Nat:=1000000
def uI (b j:Nat):Nat:=b+(j+1)*Mx
def IE (b x:Nat):Bool:=decide (Mx<=x)&&(decide (b<=x)&&decide ((x-b)%Mx=0))
def mZ (b:Nat):List Nat->Bool
 |[]=>false
 |x::r=>decide (x=b)||(IE b x||mZ b r)
def marks:List Nat->List Nat
 |[]=>[]
 |i::r=>(i+kZ)::marks r

/-! Values -/
mutual
def cC (g:AV->AV):AV->AV
 |.du k p off len=>g (.du k p off len)
 |.eR k p i off=>g (.eR k p i off)
 |.agg cs=>.agg (cK g cs)
 |.dA cs=>.dA (cK g cs)
 |.func f a b=>.func f (cK g a) (cK g b)
 |.any=>.any|.undef=>.undef|.fg=>.fg|.fj=>.fj|.di=>.di
 |.int k n=>.int k n|.bool b=>.bool b|.str s=>.str s
 |.list k xs=>.list k xs|.de cs=>.de cs|.ptr b off=>.ptr b off|.sl k b off len=>.sl k b off len
 |.own k xs=>.own k xs
def cK (g:AV->AV):List AV->List AV
 |[]=>[]
 |x::r=>cC g x::cK g r
end
mutual
def aI:AV->List Rt
 |.du _ p _ _=>[p]
 |.eR _ p _ _=>[p]
 |.agg cs=>cU cs
 |.dA cs=>cU cs
 |.func _ a b=>cU a++cU b
 |_=>[]
def cU:List AV->List Rt
 |[]=>[]
 |x::r=>aI x++cU r
end
mutual
def pl:AV->Bool
 |.own _ _|.du _ _ _ _|.eR _ _ _ _|.ptr _ _|.sl _ _ _ _=>false
 |.agg cs=>eC cs
 |.dA cs=>eC cs
 |.func f a b=>!uF f&&(eC a&&eC b)
 |_=>true
def eC:List AV->Bool
 |[]=>true
 |x::r=>pl x&&eC r
end
def fz (x:AV):Bool:=x.leaf&&pl x
def IY:List AV->Bool
 |[]=>true
 |x::r=>fz x&&IY r
def bF:List AV->Bool
 |[]=>false
 |.own _ _::_=>true
 |_::r=>bF r
def bH:AV->Bool
 |.own _ _=>true
 |.agg cs=>bF cs
 |_=>false
mutual
def clean:AV->Bool
 |.list _ xs=>xs.isEmpty
 |.de _|.any|.func _ _ _|.du _ _ _ _|.eR _ _ _ _|.ptr _ _|.sl _ _ _ _=>false
 |.own _ xs=>gn xs
 |.agg cs=>gn cs
 |.dA cs=>gn cs
 |_=>true
def gn:List AV->Bool
 |[]=>true
 |x::r=>clean x&&gn r
end

/-! Places -/
def er (f:Nat->Rt):Nat->List AV->List AV
 |_,[]=>[]
 |j,.own k xs::r=>.du k (f j) 0 xs.length::er f (j+1) r
 |j,x::r=>x::er f (j+1) r
def eP (i:Nat):AV->AV
 |.own k xs=>.du k (.s i) 0 xs.length
 |.agg cs=>.agg (er (.sc i) 0 cs)
 |v=>v
def at_ (s:St):Rt->Option AV
 |.s i=>some (get s.env i)
 |.sc i j=>match get s.env i with
   |.agg cs=>cs[j]?
   |_=>none
 |.c b j=>match aN s.H b with
   |some cs=>cs[j]?
   |none=>none
def aq (s:St) (p:Rt):Option (Nat × List AV):=
 match at_ s p with
 |some (.own k xs)=>some (k,xs)
 |_=>none
def setAt (s:St) (p:Rt) (v:AV):St:=
 match p with
 |.s i=>⟨put s.env i v,s.H⟩
 |.sc i j=>match get s.env i with
   |.agg cs=>⟨put s.env i (.agg (cs.set j v)),s.H⟩
   |_=>s
 |.c b j=>match aN s.H b with
   |some cs=>⟨s.env,s.H.set b (some (cs.set j v))⟩
   |none=>s
def jQ (g:AV->AV):Env->Env
 |[]=>[]
 |(i,v)::r=>(i,cC g v)::jQ g r
def fH (g:AV->AV):Heap->Heap
 |[]=>[]
 |none::r=>none::fH g r
 |some cs::r=>some (cK g cs)::fH g r
def bX (g:AV->AV) (s:St):St:=⟨jQ g s.env,fH g s.H⟩

def sw (p:Rt):AV->AV
 |.du k q off len=>if q=p then .any else .du k q off len
 |.eR k q i off=>if q=p then .any else .eR k q i off
 |v=>v
def rt (p q:Rt) (n:Nat):AV->AV
 |.du k r off len=>if r=p then (if off+len<=n then .du k q off len else .any) else .du k r off len
 |.eR k r i off=>if r=p then (if i<n then .eR k q i off else .any) else .eR k r i off
 |v=>v
def fb (p:Rt) (k:Nat) (xs:List AV):AV->AV
 |.du k' q off len=>if q=p then (if k'=k/\off+len<=xs.length then .list k ((xs.drop off).take len) else .any) else .du k' q off len
 |.eR k' q i off=>if q=p then (if k'=k then match xs[i]? with
   |some x=>.de (x.cells.drop off)
   |none=>.any
   else .any) else .eR k' q i off
 |v=>v
def EI (s:St) (p:Rt):St:=
 match aq s p with
 |some (k,xs)=>setAt (bX (fb p k xs) s) p (.list k xs)
 |none=>s
def dJ:List Rt->St->St
 |[],s=>s
 |p::r,s=>dJ r (EI s p)

def Mm (p:Rt) (q:Rt):AV->Option Rt
 |.du _ r _ _=>if r=p then some q else none
 |_=>none
def Jd (p:Rt) (f:Nat->Rt):Nat->List AV->Option Rt
 |_,[]=>none
 |j,x::r=>match Mm p (f j) x with
   |some y=>some y
   |none=>Jd p f (j+1) r
def borS (p:Rt) (i:Nat):AV->Option Rt
 |.agg cs=>Jd p (.sc i) 0 cs
 |v=>Mm p (.s i) v
def borE (p:Rt):Env->Option Rt
 |[]=>none
 |(i,v)::r=>match borS p i v with
   |some y=>some y
   |none=>borE p r
def XQ (p:Rt):Nat->Heap->Option Rt
 |_,[]=>none
 |b,none::r=>XQ p (b+1) r
 |b,some cs::r=>match Jd p (.c b) 0 cs with
   |some y=>some y
   |none=>XQ p (b+1) r
def LY (p:Rt) (s:St):Option Rt:=
 match borS p eW (get s.env eW) with
 |some y=>some y
 |none=>match borE p s.env with
   |some y=>some y
   |none=>XQ p 0 s.H
def rel (s:St) (p:Rt):St:=
 match aq s p with
 |none=>s
 |some (k,xs)=>match LY p s with
   |none=>setAt (bX (sw p) s) p .any
   |some q=>match at_ s q with
     |some (.du _ r 0 len)=>if r=p then setAt (setAt (bX (rt p q len) s) p .any) q (.own k (xs.take len)) else EI s p
     |_=>EI s p
def FM (i:Nat):Nat->List AV->St->St
 |_,[],s=>s
 |j,.own _ _::r,s=>FM i (j+1) r (rel s (.sc i j))
 |j,_::r,s=>FM i (j+1) r s
def Ac (s:St) (i:Nat):St:=
 match get s.env i with
 |.own _ _=>rel s (.s i)
 |.agg cs=>FM i 0 cs s
 |_=>s
def nS (keep:List Nat):Env->St->St
 |[],s=>s
 |(i,_)::r,s=>nS keep r (if mem i keep then s else Ac s i)
def rL (keep:List Nat):Env->Bool
 |[]=>false
 |(i,v)::r=>(!mem i keep&&bH v)||rL keep r

def iZ (i d:Nat):Rt->Rt
 |.s j=>if j=i then .s d else .s j
 |.sc j l=>if j=i then .sc d l else .sc j l
 |.c b j=>.c b j
def Tt (i d:Nat):AV->AV
 |.du k p off len=>.du k (iZ i d p) off len
 |.eR k p l off=>.eR k (iZ i d p) l off
 |v=>v
def IP (s:St) (d:Nat):St:=
 let s1:=bX (Tt eW d) s
 ⟨put (put s1.env eW .any) d (get s1.env eW),s1.H⟩
def wc (f:Rt->Bool):List Rt->Bool
 |[]=>false
 |p::r=>f p||wc f r
def Fi (f:Rt->Bool):Env->Bool
 |[]=>false
 |(_,v)::r=>wc f (aI v)||Fi f r
def Fg (f:Rt->Bool):Heap->Bool
 |[]=>false
 |none::r=>Fg f r
 |some cs::r=>wc f (cU cs)||Fg f r
def Fj (f:Rt->Bool) (s:St) (v:AV):Bool:=wc f (aI v)||(Fi f s.env||Fg f s.H)
def bq (d:Nat):Rt->Bool
 |.s i=>decide (i=d)
 |.sc i _=>decide (i=d)
 |.c _ _=>false
def cM (b off k:Nat):Rt->Bool
 |.c c j=>decide (c=b)&&(decide (off<=j)&&decide (j<off+k))
 |_=>false
def JN (s:St) (d:Nat) (v:AV):Bool:=bH (get s.env d)&&Fj (bq d) s v
def Ti (s:St) (d:Nat) (v:AV):Option St:=
 if JN s d v then
  match get s.env eW with
  |.any=>if bH (get (Ac ⟨put s.env eW v,s.H⟩ d).env d) then none else some (IP (Ac ⟨put s.env eW v,s.H⟩ d) d)
  |_=>none
 else some ⟨put s.env d v,s.H⟩
def xM (s:St) (d:Option Nat) (v:AV):Option St:=
 match d with
 |some d=>Ti s d v
 |none=>some s

/-! Boxes that nobody refers to -/
mutual
def rF (b:Nat):AV->Bool
 |.ptr c _=>decide (c≠b)
 |.sl _ c _ _=>decide (c≠b)
 |.du _ (.c d _) _ _=>decide (d≠b)
 |.eR _ (.c d _) _ _=>decide (d≠b)
 |.agg cs=>jG b cs
 |.dA cs=>jG b cs
 |.func _ x y=>jG b x&&jG b y
 |_=>true
def jG (b:Nat):List AV->Bool
 |[]=>true
 |x::r=>rF b x&&jG b r
end
def AK (b:Nat):Env->Bool
 |[]=>true
 |(_,v)::r=>rF b v&&AK b r
def vC (b:Nat):Heap->Bool
 |[]=>true
 |none::r=>vC b r
 |some cs::r=>jG b cs&&vC b r
def trim (base:Nat) (env:Env):Nat->Heap->Heap
 |0,H=>H
 |n+1,H=>if base<=n/\H.length=n+1/\AK n env=true/\vC n (H.take n)=true then trim base env n (H.take n) else H
def Xs (base:Nat) (keep:List Nat) (s:St):St:=⟨qO keep s.env,trim base (qO keep s.env) s.H.length s.H⟩
def Oe (base:Nat) (keep:List Nat) (s:St):Option St:=
 if rL keep s.env then
  if rL keep (nS keep s.env s).env then none else some (Xs base keep (nS keep s.env s))
 else some (Xs base keep s)

/-! Operations -/
def aR (c:dM) (env:Env):E->AV
 |.t i=>eP i (get env i)
 |.k x=>x
 |.g i=>.de (c.gl i)
def dm (c:dM) (env:Env):List E->List AV
 |[]=>[]
 |x::r=>aR c env x::dm c env r
def cont (s:St) (k:Nat):AV->Option (List AV)
 |.list k' xs=>if k'=k then some xs else none
 |.own _ []=>some []
 |.du k' p off len=>match aq s p with
   |some (wW,xs)=>if k'=k/\wW=k/\off+len<=xs.length then some ((xs.drop off).take len) else none
   |none=>none
 |_=>none
def Ob:AV->Option AV
 |.own k xs=>some (.list k xs)
 |x=>if fz x then some x else none
def xO:List AV->Option (List AV)
 |[]=>some []
 |x::r=>match Ob x,xO r with
   |some y,some ys=>some (y::ys)
   |_,_=>none
def LQ (s:St) (k b off len:Nat):Option AV:=
 match aN s.H b with
 |some cs=>if k=1/\off+len<=cs.length then match xO ((cs.drop off).take len) with
   |some ys=>some (.list 1 ys)
   |none=>none
   else none
 |none=>none
mutual
def ks (sh:Bool) (s:St):AV->Option AV
 |.du k p off len=>match aq s p with
   |some (k',xs)=>if k'=k/\off+len<=xs.length then some (.list k ((xs.drop off).take len)) else none
   |none=>none
 |.own _ _=>none
 |.agg cs=>match Bi sh s cs with
   |some ds=>some (.agg ds)
   |none=>none
 |.dA cs=>match Bi sh s cs with
   |some ds=>some (.dA ds)
   |none=>none
 |.func f a b=>match Bi sh s a,Bi sh s b with
   |some a',some b'=>some (.func f a' b')
   |_,_=>none
 |.ptr b off=>if sh then some (.ptr b off) else none
 |.eR _ _ _ _=>none
 |.sl _ _ _ _=>none
 |.any=>none
 |x=>some x
def Bi (sh:Bool) (s:St):List AV->Option (List AV)
 |[]=>some []
 |x::r=>match ks sh s x,Bi sh s r with
   |some y,some ys=>some (y::ys)
   |_,_=>none
end
mutual
def Oa (s:St):AV->Option AV
 |.sl k b off len=>LQ s k b off len
 |.dA cs=>match Hd s cs with
   |some ds=>some (.dA ds)
   |none=>none
 |x=>ks false s x
def Hd (s:St):List AV->Option (List AV)
 |[]=>some []
 |x::r=>match Oa s x,Hd s r with
   |some y,some ys=>some (y::ys)
   |_,_=>none
end
def gj:AV->AV
 |.own k []=>.list k []
 |v=>v
def tP (s:St):List AV->Option (List AV)
 |[]=>some []
 |.own k []::r=>match tP s r with
   |some ys=>some (.list k []::ys)
   |none=>none
 |.sl k b off len::r=>match LQ s k b off len,tP s r with
   |some y,some ys=>some (y::ys)
   |_,_=>none
 |x::r=>match ks false s x,tP s r with
   |some y,some ys=>some (y::ys)
   |_,_=>none
def C4:List AV->List Rt
 |[]=>[]
 |.sl _ b _ _::r=>.c b 1::C4 r
 |_::r=>C4 r
mutual
def kK:AV->Bool
 |.own _ _|.du _ _ _ _|.eR _ _ _ _=>false
 |.agg cs=>fo cs
 |.dA cs=>fo cs
 |.func _ a b=>fo a&&fo b
 |_=>true
def fo:List AV->Bool
 |[]=>true
 |x::r=>kK x&&fo r
end
def tG:AV->Option Nat
 |.di=>some 0
 |.own _ []=>some 0
 |.list _ xs=>some xs.length
 |.du _ _ _ len=>some len
 |.sl _ _ _ len=>some len
 |_=>none
def yZ (c:dM) (env:Env) (dflt hi:Nat):Option E->Option Nat
 |none=>some dflt
 |some x=>bnd (aR c env x) hi
def qb (c:dM) (env:Env):List AV->List (Nat × Nat × E)->Option (List AV)
 |zs,[]=>some zs
 |zs,(off,sz,x)::r=>
   if (aR c env x).cells.length=sz/\off+sz<=zs.length/\bm (aR c env x).cells=true then qb c env (iX zs off (aR c env x).cells) r else none
def gG:Et->AV->Option Bool
 |.Nz,.di=>some true
 |.Nz,.du _ _ _ len=>if len=0 then none else some false
 |.Nz,.list _ (_::_)=>some false
 |.Nz,.sl _ _ _ _=>some false
 |.DY,.fg=>some true
 |.DY,.ptr _ _=>some false
 |.DY,.de _=>some false
 |.Zj,.fj=>some true
 |.Zj,.func f _ _=>if uF f then none else some false
 |_,_=>none
def eqB:Et->AV->AV->Option Bool
 |.bool,.bool a,.bool b=>some (a == b)
 |.str l,.agg xs,.agg ys=>xf l xs ys
 |.Nz,x,.own _ []=>gG .Nz x
 |.Nz,x,.di=>gG .Nz x
 |.DY,x,.fg=>gG .DY x
 |.Zj,x,.fj=>gG .Zj x
 |_,_,_=>none
def H7 (ag:Option Nat) (cs:List AV):Option AV:=
 match AA ag cs with
 |some v=>if bH v then none else some v
 |none=>none
def Nt (c:dM) (env:Env):Kd->Option AV
 |.mv x=>some (aR c env x)
 |.pick t a b=>match aR c env t with
   |.bool t=>some (if t then aR c env a else aR c env b)
   |_=>none
 |.build zs ps=>match qb c env zs ps with
   |some cs=>some (.agg cs)
   |none=>none
 |.mA x=>match aR c env x with
   |.ptr b off=>some (.ptr b off)
   |.de cs=>some (.de cs)
   |.func (.func f) a b=>some (.func (.func f) a b)
   |_=>none
 |.bin op x y=>qg op (aR c env x) (aR c env y)
 |.eq ng t x y=>match eqB t (aR c env x) (aR c env y) with
   |some e=>some (.bool (if ng then !e else e))
   |none=>none
 |.un op x=>M1 op (aR c env x)
 |.Jw k x=>match aR c env x with
   |.int _ n=>some (.int k (k.wrap n))
   |_=>none
 |.KJ fn a b=>if uF fn||bF (dm c env a++dm c env b) then none else some (.func fn (dm c env a) (dm c env b))
 |.FC k x lo hi=>match tG (aR c env x) with
   |some n=>match yZ c env n n hi with
     |some h=>match yZ c env 0 h lo with
       |some l=>match aR c env x with
         |.own k' xs=>if k'=k then some (.own k xs) else none
         |.list k' xs=>if k'=k then some (.list k ((xs.take h).drop l)) else none
         |.du k' p off _=>if k'=k then some (.du k p (off+l) (h-l)) else none
         |.sl k' b off _=>if k'=k then some (.sl k b (off+l*k) (h-l)) else none
         |_=>none
       |none=>none
     |none=>none
   |none=>none
 |.Aa off x=>match aR c env x with
   |.ptr b o=>some (.ptr b (o+off))
   |.de cs=>some (.de (cs.drop off))
   |.eR k p i o=>some (.eR k p i (o+off))
   |_=>none
 |.F9 n x hi=>match hi with
   |none=>match aR c env x with
     |.de cs=>if n<=cs.length/\bm (cs.take n)=true then some (.list 1 (cs.take n)) else none
     |_=>none
   |some _=>none
 |.TR off ag x=>match aR c env x with
   |.agg cs=>H7 ag (cs.drop off)
   |_=>none
 |.tH k x i=>match aR c env x with
   |.list k' xs=>match idx (aR c env i) xs.length with
     |some j=>if k'=k then match xs[j]? with
       |some v=>some (.de v.cells)
       |none=>none
       else none
     |none=>none
   |.du k' p off len=>match idx (aR c env i) len with
     |some j=>if k'=k then some (.eR k p (off+j) 0) else none
     |none=>none
   |.sl k' b off len=>match idx (aR c env i) len with
     |some j=>if k'=k then some (.ptr b (off+j*k)) else none
     |none=>none
   |_=>none
 |.Ci n k x i=>match idx (aR c env i) n with
   |some j=>match aR c env x with
     |.ptr b off=>some (.ptr b (off+j*k))
     |.de cs=>some (.de (cs.drop (j*k)))
     |.eR k' p l off=>some (.eR k' p l (off+j*k))
     |_=>none
   |none=>none
 |.ix n k ag x i=>match idx (aR c env i) n with
   |some j=>match aR c env x with
     |.agg cs=>H7 ag (cs.drop (j*k))
     |_=>none
   |none=>none
 |.Ty tab i=>match idx (aR c env i) tab.length with
   |some j=>match tab[j]? with
     |some v=>some (.int .u8 v)
     |none=>none
   |none=>none
 |.ext i x=>match aR c env x with
   |.dA vs=>match vs[i]? with
     |some v=>if bH v then none else some v
     |none=>none
   |_=>none
 |.len x=>match tG (aR c env x) with
   |some n=>some (.int .i64 n)
   |none=>none
 |.min xs=>xy false (dm c env xs)
 |.max xs=>xy true (dm c env xs)
 |_=>none

def gg (c:dM) (env:Env):List (Nat × Nat × E)->List Rt
 |[]=>[]
 |(_,_,x)::r=>aI (aR c env x)++gg c env r
inductive Fq where
 |no|rc (b j:Nat)|rd (ps:List Rt)|al (n:Nat)|wr (sl:List Nat) (bs:Option (List Nat))|all|sp|bo (ps:List Rt)|lw (b:Nat)
 deriving Inhabited
def vM (p:Rt):List Rt->Bool
 |[]=>false
 |q::r=>decide (q=p)||vM p r
def isRoot (p:Rt) (i:Nat):Bool:=
 match p with
 |.s j=>decide (j=i)
 |.sc j _=>decide (j=i)
 |.c _ _=>false
def k7 (p:Rt):Env->List Nat
 |[]=>[]
 |(i,v)::r=>if vM p (aI v)||isRoot p i then i::k7 p r else k7 p r
def rB (p:Rt):Nat->Heap->List Nat
 |_,[]=>[]
 |b,none::r=>rB p (b+1) r
 |b,some cs::r=>if vM p (cU cs) then b::rB p (b+1) r else rB p (b+1) r
def eB:List Rt->Bool
 |[]=>false
 |.c _ _::_=>true
 |_::r=>eB r
def eU:Env->List Nat
 |[]=>[]
 |(i,v)::r=>if eB (aI v) then i::eU r else eU r
def JG (k:Nat) (x:AV) (off:Nat) (vs:List AV):AV:=if off=0/\vs.length=k then el vs else el (iX x.cells off vs)
def ym (s:St) (ag:Option Nat):AV->Option (AV × List Rt)
 |.de cs=>match H7 ag cs with
   |some v=>some (v,[])
   |none=>none
 |.ptr b off=>match aN s.H b with
   |some cs=>match H7 ag ((er (.c b) 0 cs).drop off) with
     |some v=>some (v,[.c b (if (aI v).isEmpty then 1 else 0)])
     |none=>none
   |none=>none
 |.eR k p i off=>match aq s p with
   |some (k',xs)=>if k'=k then match xs[i]? with
     |some x=>match H7 ag (x.cells.drop off) with
       |some v=>some (v,[p])
       |none=>none
     |none=>none
     else none
   |none=>none
 |_=>none
def ye (b:Nat):Nat->Nat->St->St
 |_,0,s=>s
 |j,n+1,s=>ye b (j+1) n (match aq s (.c b j) with
   |some _=>rel s (.c b j)
   |none=>s)
def gL (i b off:Nat):Rt->Rt
 |.s j=>if j=i then .c b off else .s j
 |.sc j l=>if j=i then .c b (off+l) else .sc j l
 |.c d j=>.c d j
def ir (i b off:Nat):AV->AV
 |.du k p o len=>.du k (gL i b off p) o len
 |.eR k p l o=>.eR k (gL i b off p) l o
 |v=>v
def rM (s:St) (b off k:Nat):Option St:=
 match aN (bX (ir eW b off) s).H b with
 |some cs=>if (get (bX (ir eW b off) s).env eW).cells.length=k/\off+k<=cs.length/\bF ((cs.drop off).take k)=false/\bm (get (bX (ir eW b off) s).env eW).cells=true then
   some ⟨put (bX (ir eW b off) s).env eW .any,(bX (ir eW b off) s).H.set b (some (iX cs off (get (bX (ir eW b off) s).env eW).cells))⟩
   else none
 |none=>none
def xI (s:St) (b off k:Nat) (v:AV):Option (St × Fq):=
 match aN s.H b with
 |some cs=>if v.cells.length=k/\off+k<=cs.length/\bm v.cells=true then
   if bF ((cs.drop off).take k)&&Fj (cM b off k) s v then
    match get s.env eW with
    |.any=>match rM (ye b off k ⟨put s.env eW v,s.H⟩) b off k with
      |some s'=>some (s',.all)
      |none=>none
    |_=>none
   else some (⟨s.env,s.H.set b (some (iX cs off v.cells))⟩,.wr [] (some [b]))
   else none
 |none=>none
def rootOf:Rt->List Nat
 |.s i=>[i]
 |.sc i _=>[i]
 |.c _ _=>[]
def kB:Rt->List Nat
 |.c b _=>[b]
 |_=>[]
def RG:Rt->List Nat
 |.c b _=>[uI b 99999]
 |_=>[]
def MA (s:St) (k:Nat) (a v:AV):Option (St × Fq):=
 match a with
 |.ptr b off=>xI s b off k v
 |.eR k' p i off=>match aq s p with
   |some (wW,xs)=>if wW=k' then match xs[i]? with
     |some x=>if v.cells.length=k/\off+k<=k'/\IY v.cells=true then some (setAt s p (.own k' (xs.set i (JG k' x off v.cells))),.wr (marks (rootOf p)) (some (RG p))) else none
     |none=>none
     else none
   |none=>none
 |_=>none

def kS:AV->AV
 |.du _ (.c _ _) _ _=>.any
 |.eR _ (.c _ _) _ _=>.any
 |x=>x
def dh:Rt->Bool
 |.c _ _=>false
 |_=>true
def gQ:Heap->Bool
 |[]=>true
 |none::_=>false
 |some cs::r=>!wc dh (cU cs)&&gQ r
def lQ:AV->AV
 |.du k (.c b j) off len=>.du k (.c b j) off len
 |.eR k (.c b j) i off=>.eR k (.c b j) i off
 |.du _ _ _ _=>.any
 |.eR _ _ _ _=>.any
 |x=>x
def fnE:Fn->Fn->Bool
 |.func f,y=>match y with|.func g=>ke f g|_=>false
 |_,_=>false
mutual
def mQ:AV->AV->Bool
 |.any,y=>match y with|.any=>true|_=>false
 |.undef,y=>match y with|.undef=>true|_=>false
 |.fg,y=>match y with|.fg=>true|_=>false
 |.fj,y=>match y with|.fj=>true|_=>false
 |.di,y=>match y with|.di=>true|_=>false
 |.int k n,y=>match y with|.int k' n'=>decide (k=k')&&decide (n=n')|_=>false
 |.bool b,y=>match y with|.bool b'=>b == b'|_=>false
 |.str _,_=>false
 |.agg x,y=>match y with|.agg x'=>il x x'|_=>false
 |.dA x,y=>match y with|.dA x'=>il x x'|_=>false
 |.list k x,y=>match y with|.list k' x'=>ke k k'&&il x x'|_=>false
 |.de x,y=>match y with|.de x'=>il x x'|_=>false
 |.ptr b o,y=>match y with|.ptr b' o'=>ke b b'&&ke o o'|_=>false
 |.sl k b o l,y=>match y with|.sl k' b' o' l'=>(ke k k'&&ke b b')&&(ke o o'&&ke l l')|_=>false
 |.func f a b,y=>match y with|.func f' a' b'=>fnE f f'&&(il a a'&&il b b')|_=>false
 |.own k x,y=>match y with|.own k' x'=>ke k k'&&il x x'|_=>false
 |.du k p o l,y=>match y with|.du k' p' o' l'=>(ke k k'&&decide (p=p'))&&(ke o o'&&ke l l')|_=>false
 |.eR k p i o,y=>match y with|.eR k' p' i' o'=>(ke k k'&&decide (p=p'))&&(ke i i'&&ke o o')|_=>false
def il:List AV->List AV->Bool
 |[],y=>match y with|[]=>true|_=>false
 |a::r,y=>match y with|b::s=>mQ a b&&il r s|_=>false
end
theorem adR:∀{f g:Fn},fnE f g=true->f=g:=by
 intro f g h;cases f<;>cases g<;>simp only[fnE,bk] at h
 rw[bZ h]
mutual
theorem aec:∀(a b:AV),mQ a b=true->a=b
 |.any,b,h=>by cases b<;>first|rfl|(simp[mQ] at h; done)
 |.undef,b,h=>by cases b<;>first|rfl|(simp[mQ] at h; done)
 |.fg,b,h=>by cases b<;>first|rfl|(simp[mQ] at h; done)
 |.fj,b,h=>by cases b<;>first|rfl|(simp[mQ] at h; done)
 |.di,b,h=>by cases b<;>first|rfl|(simp[mQ] at h; done)
 |.int k n,b,h=>by
   cases b<;>first|(simp[mQ] at h; done)|skip
   simp only[mQ,ae,decide_eq_true_eq] at h;rw[h.1,h.2]
 |.bool x,b,h=>by
   cases b<;>first|(simp[mQ] at h; done)|skip
   simp only[mQ,beq_iff_eq] at h;rw[h]
 |.str _,b,h=>by simp[mQ] at h
 |.agg x,b,h=>by
   cases b<;>first|(simp[mQ] at h; done)|skip
   simp only[mQ] at h;rw[qi _ _ h]
 |.dA x,b,h=>by
   cases b<;>first|(simp[mQ] at h; done)|skip
   simp only[mQ] at h;rw[qi _ _ h]
 |.de x,b,h=>by
   cases b<;>first|(simp[mQ] at h; done)|skip
   simp only[mQ] at h;rw[qi _ _ h]
 |.list k x,b,h=>by
   cases b<;>first|(simp[mQ] at h; done)|skip
   simp only[mQ,ae] at h;rw[bZ h.1,qi _ _ h.2]
 |.own k x,b,h=>by
   cases b<;>first|(simp[mQ] at h; done)|skip
   simp only[mQ,ae] at h;rw[bZ h.1,qi _ _ h.2]
 |.ptr k x,b,h=>by
   cases b<;>first|(simp[mQ] at h; done)|skip
   simp only[mQ,ae] at h;rw[bZ h.1,bZ h.2]
 |.sl k x y z,b,h=>by
   cases b<;>first|(simp[mQ] at h; done)|skip
   simp only[mQ,ae] at h;rw[bZ h.1.1,bZ h.1.2,bZ h.2.1,bZ h.2.2]
 |.func f x y,b,h=>by
   cases b<;>first|(simp[mQ] at h; done)|skip
   simp only[mQ,ae] at h;rw[adR h.1,qi _ _ h.2.1,qi _ _ h.2.2]
 |.du k x y z,b,h=>by
   cases b<;>first|(simp[mQ] at h; done)|skip
   simp only[mQ,ae,decide_eq_true_eq] at h;rw[bZ h.1.1,h.1.2,bZ h.2.1,bZ h.2.2]
 |.eR k x y z,b,h=>by
   cases b<;>first|(simp[mQ] at h; done)|skip
   simp only[mQ,ae,decide_eq_true_eq] at h;rw[bZ h.1.1,h.1.2,bZ h.2.1,bZ h.2.2]
theorem qi:∀(x y:List AV),il x y=true->x=y
 |[],y,h=>by cases y<;>first|rfl|(simp[il] at h; done)
 |a::r,y,h=>by
   cases y with
   |nil=>simp[il] at h
   |cons b s=>
     simp only[il,ae] at h;rw[aec _ _ h.1,qi _ _ h.2]
end
def mP:OP->OP->Bool
 |none,y=>match y with|none=>true|some _=>false
 |some x,y=>match y with|some x'=>il x x'|none=>false
theorem aaN {x y:OP} (h:mP x y=true):x=y:=by
 cases x<;>cases y<;>simp only[mP,bk] at h
 ·rfl
 ·rw[qi _ _ h]
mutual
def nn:AV->List Nat
 |.ptr b _=>[b]
 |.sl _ b _ _=>[b]
 |.agg cs=>eV cs
 |.dA cs=>eV cs
 |.func _ a b=>eV a++eV b
 |_=>[]
def eV:List AV->List Nat
 |[]=>[]
 |x::r=>nn x++eV r
end
def hU:OP->Bool
 |some cs=>!bF cs&&(cU cs).isEmpty
 |none=>false
def cT (l:List Nat):Nat->Heap->Heap->Option (List Nat)
 |_,[],[]=>some []
 |b,x::H,y::H'=>match cT l (b+1) H H' with
   |some r=>if mem b l then some r else if mP x y then some (if hU x then r else (b+kZ)::r) else none
   |none=>none
 |_,_,_=>none
def ft (l:List Nat):Option (List Nat)->Option (List Nat)
 |some r=>some (l++r)
 |none=>none
mutual
def Rc:AV->AV
 |.du k p off n=>if n=0 then .list k [] else .du k p off n
 |.agg cs=>.agg (zI cs)
 |v=>v
def zI:List AV->List AV
 |[]=>[]
 |x::r=>Rc x::zI r
end
def oU (c:dM) (env:Env):Kd->Option (Nat × List AV)
 |.call f args=>some (f,dm c env args)
 |.iR x args=>match aR c env x with
   |.func (.func f) a b=>if bF a||bF b then none else some (f,a++dm c env args++b)
   |_=>none
 |_=>none
def getArgs (c:dM) (env:Env) (kd:Kd):Option (Nat × List AV):=
 match oU c env kd with
 |some (f,args)=>some (f,if c.emp f=true then zI args else args)
 |none=>none
def Kz (r:AV):Bool:=clean r&&(match r with
 |.own _ _=>true
 |r=>!bH r)
def mH (s:St):List Rt->Fq
 |[p]=>match aq s p with
   |some _=>.wr (k7 p s.env) (some (kB p++rB p 0 s.H))
   |none=>.all
 |_=>.all
def dO (c:dM) (call:Nat->List AV->Heap->Option (AV × Heap)) (kd:Kd) (s:St):Option (AV × St × Fq):=
 match getArgs c s.env kd with
 |none=>none
 |some (f,args)=>match c.fn f with
   |none=>none
   |some (md,_)=>
     if md.cl&&!md.sh then
      match tP s args with
      |none=>none
      |some rR=>match call f rR [] with
        |some (r,_)=>if Kz r then some (r,s,if (cU args++C4 args).isEmpty then .no else .rd (cU args++C4 args)) else none
        |none=>none
     else match getArgs c (dJ (cU args) s).env kd with
      |none=>none
      | some (f1, oY) => if f1 = f then
           if md.sh then
            if fo (oY.map gj)&&gQ (dJ (cU args) s).H then match call f (oY.map gj) (dJ (cU args) s).H with
              |some (r,H')=>if ((aI r).isEmpty&&!bH r)&&gQ H' then some (r,⟨jQ kS (dJ (cU args) s).env,H'⟩,if (cU args).isEmpty then .wr (eU s.env) (ft (eV oY) (cT (eV oY) 0 (dJ (cU args) s).H H')) else .all) else none
              |none=>none
            else none
           else if eC (oY.map gj) then match call f (oY.map gj) [] with
            |some (r,_)=>if pl r then some (r,dJ (cU args) s,if (cU args).isEmpty then .no else mH s (cU args)) else none
            |none=>none
           else none
        else none

def TB (k:Nat) (p:Rt):Option Nat->AV
 |none=>.dA []
 |some m=>.du k p 0 m
def ZD (k:Nat):Option Nat->AV
 |none=>.dA []
 |some _=>.list k []
def Eu (k b:Nat):Option Nat->AV
 |none=>.dA []
 |some m=>.sl k b 0 m
def cellOf:Rt->List Nat
 |.c b j=>[uI b j]
 |_=>[]
def yd:List Rt->List Nat
 |[]=>[]
 |p::r=>rootOf p++yd r
def afQ (s:St) (p:Rt):AV->Option AV
 |.int k n=>some (.int k n)
 |.du k q off len=>if q=p then none else match aq s q with
   |some (k',xs)=>if k'=k/\off+len<=xs.length/\gn xs=true then some (.list k ((xs.drop off).take len)) else none
   |none=>none
 |_=>none
def isFn:AV->Bool
 |.func _ _ _=>true
 |_=>false
def ab8:List AV->Bool
 |[]=>false
 |x::r=>isFn x||ab8 r
def Of (s:St) (g:Nat->List AV->List AV->Option (List AV)) (x:AV) (es:List AV):Option (AV × St × Fq):=none
def pW (c:dM) (s:St):Kd->Option (Option (AV × St × Fq))
 |.call f (x::es)=>match c.inp f with
   |none=>match c.eat f with
     |none=>none
     |some g=>some (Of s g (aR c s.env x) (dm c s.env es))
   |some g=>some (match aR c s.env x with
     |.list k []=>if eC (dm c s.env es)=true then match g k [] (dm c s.env es) with
       |some (_,res)=>some (ZD k res,s,.wr [] (some []))
       |none=>none
       else none
     |.du k p 0 len=>match aq s p with
       |some (k',xs)=>if k'=k/\len<=xs.length/\eC (dm c s.env es)=true then
         match g k (xs.take len) (dm c s.env es) with
         |some (ys,res)=>some (TB k p res,setAt s p (.own k (ys++xs.drop len)),.wr (rootOf p) (some (kB p)))
         |none=>none
         else none
       |none=>none
     |.sl k b 0 len=>match aN s.H b with
       |some cs=>if k=1/\len<=cs.length/\IY cs=true/\eC (dm c s.env es)=true then
         match g k (cs.take len) (dm c s.env es) with
         |some (ys,res)=>some (Eu k b res,⟨s.env,s.H.set b (some (az ys++cs.drop len))⟩,.all)
         |none=>none
         else none
       |none=>none
     |_=>none)
 |_=>none
def Tx (c:dM) (call:Nat->List AV->Heap->Option (AV × Heap)) (s:St) (f:Nat) (es:List AV):AV->Option (AV × St × Fq)
 |.ptr b 0=>match c.fn f,aN s.H b with
   |some (md,_),some cs=>if md.sh=true/\eC es=true/\eC cs=true then match call f (.ptr 0 0::es) [some cs] with
     |some (r,[some cs'])=>if pl r=true/\eC cs'=true then some (r,⟨s.env,s.H.set b (some cs')⟩,.lw b) else none
     |_=>none
     else none
   |_,_=>none
 |_=>none
def mN (c:dM) (call:Nat->List AV->Heap->Option (AV × Heap)) (s:St):Kd->Option (Option (AV × St × Fq))
 |.call f (x::es)=>if c.loc f=true then some (Tx c call s f (dm c s.env es) (aR c s.env x)) else none
 |_=>none
def KI (c:dM) (call:Nat->List AV->Heap->Option (AV × Heap)) (f i:Nat) (s1:St) (xs:List AV):Option (AV × St × Fq):=none
def rZ (c:dM) (call:Nat->List AV->Heap->Option (AV × Heap)) (s:St):Kd->Option (Option (AV × St × Fq))
 |.call f es=>match c.mov f with
   |some i=>some (KI c call f i (dJ (cU ((dm c s.env es).set i .undef)) s) (dm c (dJ (cU ((dm c s.env es).set i .undef)) s).env es))
   |none=>none
 |_=>none
def qA:Nat->List AV->Option (Nat × Nat × Nat × Nat)
 |_,[]=>none
 |i,.sl k b off len::r=>if k=1 then some (i,b,off,len) else qA (i+1) r
 |i,_::r=>qA (i+1) r
def Au (c:dM) (call:Nat->List AV->Heap->Option (AV × Heap)) (s:St) (kd:Kd):Option (AV × St × Fq):=none
def rP (c:dM) (call:Nat->List AV->Heap->Option (AV × Heap)) (kd:Kd) (s:St):Option (AV × St × Fq):=
 match dO c call kd s with
 |some x=>some x
 |none=>Au c call s kd
def fL (c:dM) (call:Nat->List AV->Heap->Option (AV × Heap)) (kd:Kd) (s:St):Option (AV × St × Fq):=
 match rZ c call s kd with
 |some r=>r
 |none=>rP c call kd s
def dj (c:dM) (call:Nat->List AV->Heap->Option (AV × Heap)) (kd:Kd) (s:St):Option (AV × St × Fq):=
 match pW c s kd with
 |some r=>r
 |none=>match mN c call s kd with
   |some r=>r
   |none=>fL c call kd s
def ldOK (x v:AV):Bool:=match x with
 |.ptr _ _=>true
 |_=>(aI v).isEmpty
def vK (x v:AV) (ps:List Rt):Fq:=match x,v with
 |.ptr b off,.du _ (.c d j) _ _=>if d=b/\j=off then .rc b off else .rd ps
 |_,_=>.rd ps
def Uf:List AV->Option (List AV)
 |[.own k []]=>if 1000<=k then some [.own (k-1000) []] else none
 |_=>none
def Ma (p:Rt):AV->Fq
 |.du _ q _ _=>if q=p then .wr (rootOf p) (some (kB p)) else .all
 |_=>.all
theorem vX (p:Rt) (x:AV):Ma p x=.all\/∃ k off len,x=.du k p off len/\Ma p x=.wr (rootOf p) (some (kB p)):=by
 unfold Ma;split
 ·rename_i k q off len;split
  ·rename_i e;subst e;exact .inr ⟨_,_,_,rfl,rfl⟩
  ·exact .inl rfl
 ·exact .inl rfl
def eO (c:dM) (call:Nat->List AV->Heap->Option (AV × Heap)) (s:St):Kd->Option (AV × St × Fq)
 |.new zs=>some (.ptr s.H.length 0,⟨s.env,s.H++[some zs]⟩,.al s.H.length)
 |.box x=>if bm (aR c s.env x).cells then some (.ptr s.H.length 0,⟨s.env,s.H++[some (aR c s.env x).cells]⟩,.al s.H.length) else none
 |.eL k n zs ps=>
   let s1:=dJ (gg c s.env ps) s
   match qb c s1.env (rep zs n) ps with
   |some cs=>if IY (cs.map gj) then some (.own k (IU k n (cs.map gj)),s1,if (gg c s.env ps).isEmpty then .no else mH s (gg c s.env ps)) else none
   |none=>none
 |.Jq k zs l cp=>match aR c s.env l,aR c s.env cp with
   |.int _ l,.int _ cp=>if 0<=l/\l<=cp/\cp<=(p7:Int) then some (match Uf zs with
     |some z=>(.sl k s.H.length 0 l.toNat,⟨s.env,s.H++[some (rep z l.toNat)]⟩,.al s.H.length)
     |none=>(.own k (List.replicate l.toNat (el (zs.map gj))),s,.no)) else none
   |_,_=>none
 |.ld ag x=>match ym s ag (aR c s.env x) with
   |some (v,ps)=>if ldOK (aR c s.env x) v then some (v,s,vK (aR c s.env x) v ps) else none
   |none=>none
 |.st k a v=>match aR c s.env a with
   |.eR _ _ _ _=>
     let s1:=dJ (aI (aR c s.env v)) s
     match MA s1 k (aR c s1.env a) (aR c s1.env v) with
     |some (s',f)=>some (.undef,s',if (aI (aR c s.env v)).isEmpty then f else .all)
     |none=>none
   |a=>match MA s k a (aR c s.env v) with
     |some (s',f)=>some (.undef,s',f)
     |none=>none
 |.RZ _ _ x=>match aR c s.env x with
   |.own _ []=>some (.undef,s,.no)
   |.list _ []=>some (.undef,s,.no)
   |_=>none
 |.AO=>some (nB s.H.length,⟨s.env,s.H++[some []]⟩,.al s.H.length)
 |.xz kt ok z x k=>match mapOf (aR c s.env x) with
   |some b=>match aN s.H b with
     |some es=>if eC es=true/\(pl (aR c s.env k)=true/\wV kt (aR c s.env k) (aR c s.env k)=some true) then
       match gM kt (aR c s.env k) es 0 with
       |some r=>if pl z=true then some (Tv ok z r,s,.rd [.c b 1]) else none
       |none=>none
       else none
     |none=>none
   |none=>none
 |.yu kt x k v=>match mapOf (aR c s.env x) with
   |some b=>match aN s.H b with
     |some es=>if eC es=true/\((pl (aR c s.env k)=true/\pl (aR c s.env v)=true)/\wV kt (aR c s.env k) (aR c s.env k)=some true) then
       match gM kt (aR c s.env k) es 0 with
       |some r=>some (.undef,⟨s.env,s.H.set b (some (yx (aR c s.env k) (aR c s.env v) es r))⟩,.all)
       |none=>none
       else none
     |none=>none
   |none=>none
 |.call f args=>dj c call (.call f args) s
 |.iR x args=>dj c call (.iR x args) s
 |.app k x y=>match cont s k (aR c s.env y) with
   |some ys=>if bm (az ys)=true then match aR c s.env x with
     |.own _ []=>if ys.length<=p7 then some (.own k ys,s,.rd (aI (aR c s.env y))) else none
     |.du k' p 0 len=>match aq s p with
       |some (wW,xs)=>if k'=k/\wW=k/\len<=xs.length/\len+ys.length<=p7 then some (.own k (xs.take len++ys),setAt (bX (sw p) s) p .any,.wr (k7 p s.env++marks (yd (aI (aR c s.env y)))) (some (cellOf p++rB p 0 s.H))) else none
       |none=>none
     |_=>none
     else none
   |none=>none
 |.copy k x y=>match aR c s.env x with
   |.du k' p off n=>if n=0 then (match cont s k (aR c s.env y) with
     |some ys=>if k'=k/\bm (az ys)=true then some (.int .i64 0,s,.all) else none
     |none=>none) else match aq s p,cont s k (aR c s.env y) with
     |some (wW,xs),some ys=>if k'=k/\wW=k/\off+n<=xs.length/\bm (az ys)=true then some (.int .i64 (min ys.length n:Nat),setAt s p (.own k (iX xs off (ys.take (min ys.length n)))),Ma p (aR c s.env y)) else none
     |_,_=>none
   |_=>none
 |.F9 n x hi=>match aR c s.env x with
   |.ptr b off=>match yZ c s.env n n hi,aN s.H b with
     |some m,some cs=>if off+n<=cs.length then some (.sl 1 b off m,s,.rd [.c b 1]) else none
     |_,_=>none
   |_=>match Nt c s.env (.F9 n x hi) with
     |some v=>some (v,s,.no)
     |none=>none
 |kd=>match Nt c s.env kd with
   |some v=>some (v,s,.no)
   |none=>none

def bM (e:Env) (d:Option Nat) (fl:Fq):Fq:=
 match d with
 |none=>fl
 |some d=>if bH (get e d) then .sp else if (aI (get e d)).isEmpty then fl else match fl with
   |.no=>.bo []
   |.rd ps=>.bo ps
   |.rc b _=>.bo [.c b 0]
   |_=>.sp
def z8 (e:Env) (d:Option Nat) (v:AV) (s:St) (fl:Fq):Option (St × Fq):=
 match xM s d v with
 |some s'=>some (s',bM e d fl)
 |none=>none
def rA (c:dM) (call:Nat->List AV->Heap->Option (AV × Heap)) (s:St) (o:O):Option (St × Fq):=
 match o.guard with
 |none=>match eO c call s o.kd with
   |some (v,s',fl)=>z8 s.env o.dst v s' fl
   |none=>none
 |some (g,want)=>match get s.env g with
   |.bool b=>if b=want then
     match eO c call s o.kd with
     |some (v,s',fl)=>z8 s.env o.dst v s' fl
     |none=>none
     else z8 s.env o.dst .undef s .no
   |.undef=>z8 s.env o.dst .undef s .no
   |_=>none
def my (c:dM) (call:Nat->List AV->Heap->Option (AV × Heap)):List O->St->Option (St × List Fq)
 |[],s=>some (s,[])
 |o::r,s=>match rA c call s o with
   |some (s',fl)=>match my c call r s' with
     |some (YF,pX)=>some (YF,fl::pX)
     |none=>none
   |none=>none

def still:Kd->Bool
 |.mv _|.pick _ _ _|.build _ _|.mA _|.bin _ _ _|.eq _ _ _ _|.un _ _|.Jw _ _|.KJ _ _ _|.FC _ _ _ _|.Aa _ _|.TR _ _ _|.tH _ _ _|.Ci _ _ _ _|.ix _ _ _ _ _|.ext _ _|.Ty _ _|.len _|.min _|.max _=>true
 |.Jq _ zs _ _=>(Uf zs).isNone
 |_=>false
def gh (n:Nat):List Rt->Bool
 |[]=>true
 |.c b _::r=>decide (b<n)&&gh n r
 |_::r=>gh n r
def gz (d:Nat):List Rt->Bool
 |[]=>true
 |.s i::r=>decide (i≠d)&&gz d r
 |.sc i _::r=>decide (i≠d)&&gz d r
 |.c _ _::r=>gz d r
def yS (d:Option Nat):Fq->Bool
 |.rd ps=>match d with
   |some d=>gz d ps
   |none=>true
 |.bo ps=>match d with
   |some d=>gz d ps
   |none=>true
 |_=>true
def qK (b:Nat):List Rt->Bool
 |[]=>true
 |.c d _::r=>decide (d≠b)&&qK b r
 |_::r=>qK b r
def Fq.ok:Fq->Fq->Bool
 |.no,.no=>true
 |.no,.rd _=>true
 |.no,.al _=>true
 |.no,.wr _ _=>true
 |.rd _,.no=>true
 |.al _,.no=>true
 |.wr _ _,.no=>true
 |.rd _,.rd _=>true
 |.rd _,.wr _ _=>true
 |.wr _ _,.rd _=>true
 |.al n,.rd ps=>gh n ps
 |.rd ps,.al n=>gh n ps
 |.al n,.bo ps=>gh n ps
 |.bo ps,.al n=>gh n ps
 |.no,.bo _=>true
 |.bo _,.no=>true
 |.rd _,.bo _=>true
 |.bo _,.rd _=>true
 |.bo _,.bo _=>true
 |.no,.rc _ _=>true
 |.rc _ _,.no=>true
 |.rc _ _,.rd _=>true
 |.rd _,.rc _ _=>true
 |.rc _ _,.rc _ _=>true
 |.rc _ _,.bo _=>true
 |.bo _,.rc _ _=>true
 |.rc _ _,.wr _ _=>true
 |.wr _ _,.rc _ _=>true
 |.al n,.rc b _=>decide (b<n)
 |.rc b _,.al n=>decide (b<n)
 |.no,.lw _=>true
 |.lw _,.no=>true
 |.rd ps,.lw b=>qK b ps
 |.lw b,.rd ps=>qK b ps
 |.rc d _,.lw b=>decide (d≠b)
 |.lw b,.rc d _=>decide (d≠b)
 |.al n,.lw b=>decide (b<n)
 |.lw b,.al n=>decide (b<n)
 |_,_=>false
def D0 (sl:List Nat):List Nat->Bool
 |[]=>true
 |i::r=>!mem i sl&&D0 sl r
def pY (sl:List Nat) (bs:Option (List Nat)):List Rt->Bool
 |[]=>true
 |.s i::r=>(!mem i sl&&!mem (i+kZ) sl)&&pY sl bs r
 |.sc i _::r=>(!mem i sl&&!mem (i+kZ) sl)&&pY sl bs r
 |.c b j::r=>(match bs with
   |some bs=>!mZ b bs&&(decide (j≠0)||!mem (b+kZ) bs)
   |none=>false)&&pY sl bs r
def Jf (bs:Option (List Nat)) (b j:Nat):Bool:=match bs with
 |some bs=>!mem b bs&&(!mem (b+kZ) bs&&!mem (uI b j) bs)
 |none=>false
def Ge (f:Fq) (y:O) (g:Fq):Bool:=
 match f with
 |.wr sl bs=>D0 sl y.reads&&(match y.dst with
   |some d=>!mem d sl&&!mem (d+kZ) sl
   |none=>true)&&(match g with
   |.rd ps=>pY sl bs ps
   |.rc b j=>Jf bs b j
   |_=>true)
 |_=>true
def ij (x:O) (f:Fq) (y:O) (g:Fq):Bool:=f.ok g&&(yS x.dst g&&yS y.dst f)&&(Ge f y g&&Ge g x f)
def zF (os:List O) (pX:List Fq):List (Nat × Nat)->Bool
 |[]=>true
 |(i,j)::r=>(decide (i=j)||ij (os.getD i ⟨none,none,.min []⟩) (pX.getD i .all) (os.getD j ⟨none,none,.min []⟩) (pX.getD j .all))&&zF os pX r

def nT:Fq->Bool
 |.no|.rc _ _|.rd _|.al _|.bo _|.wr _ _|.lw _=>true
 |_=>false
def Fm (un:List (Nat × Nat)):Nat->List Fq->Bool
 |_,[]=>true
 |k,f::r=>(nT f||jF k k un)&&Fm un (k+1) r
def Hj (os:List O) (pX:List Fq) (un:List (Nat × Nat)):Bool:=Fm un 0 pX&&zF os pX un

/-! Results -/
def Tf (c:dM) (s:St):Rv->Option AV
 |.t i=>some (aR c s.env (.t i))
 |.c i ag=>match ym s ag (aR c s.env (.t i)) with
   |some (v,_)=>some v
   |none=>none
def p9 (c:dM) (s:St):List Rv->Option (List AV)
 |[]=>some []
 |r::rs=>match Tf c s r,p9 c s rs with
   |some v,some vs=>some (v::vs)
   |_,_=>none
def Wm (base:Nat):Rt->Bool
 |.c b _=>decide (base<=b)
 |_=>true
def Fl (base:Nat):List Rt->Bool
 |[]=>true
 |p::r=>Wm base p&&(r.all fun q=>decide (q≠p))&&Fl base r
def UH (s:St):AV->Option AV
 |.du k p 0 len=>match aq s p with
   |some (k',xs)=>if k'=k/\len<=xs.length then some (.own k (xs.take len)) else none
   |none=>none
 |.own k []=>some (.own k [])
 |x=>if pl x then some x else none
def UI (s:St) (x:AV):Option AV:=UH s x
def ku (base:Nat) (s:St) (v:AV):Option (AV × Heap):=
 match get s.env eW with
 |.any=>
   let s2:=dJ (aI v) ⟨put s.env eW v,s.H⟩
   let r:=get s2.env eW
   if kK r then some (r,trim base [(0,r)] s2.H.length (fH lQ s2.H)) else none
 |_=>none
def FD:AV->AV
 |.du _ _ _ _=>.any
 |.own _ _=>.any
 |x=>x
def tg (s:St):Nat->List Rt->List AV->Option (List AV × Heap)
 |_,_,[]=>some ([],[])
 |n,used,.du k (.s i) 0 len::r=>match aq s (.s i) with
   |some (k',xs)=>if k'=k/\len=xs.length/\vM (.s i) used=false then
     if len=0 then match tg s n used r with
      |some (ys,hs)=>some (.list k []::ys,hs)
      |none=>none
     else match tg s (n+1) (.s i::used) r with
      |some (ys,hs)=>some (.sl k n 0 len::ys,some (az xs)::hs)
      |none=>none
     else none
   |none=>none
 |n,used,x::r=>if kK x=true then match tg s n used r with
   |some (ys,hs)=>some (x::ys,hs)
   |none=>none
   else none
def Xn (base:Nat) (s:St) (v:AV):Option (AV × Heap):=
 match get s.env eW,v with
 |.any,.dA cs=>if fo (cs.map FD)=true then
   match tg s (trim base [(0,.dA (cs.map FD))] s.H.length (fH lQ s.H)).length [] cs with
   |some (ys,hs)=>some (.dA ys,trim base [(0,.dA (cs.map FD))] s.H.length (fH lQ s.H)++hs)
   |none=>none
   else none
 |_,_=>none
def bU (md:Md) (base:Nat) (s:St) (v:AV):Option (AV × Heap):=
 if md.sh then (if md.ow then Xn base s v else ku base s v)
 else if md.ow then
  if Fl base (aI v) then match UI s v with
   |some r=>some (r,[])
   |none=>none
  else none
 else match Oa s v with
  |some r=>some (r,[])
  |none=>none
def FP (c:dM) (f:Nat) (args:List AV) (H:Heap):Option (AV × Heap):=
 match c.orc f with
 |some g=>g args H
 |none=>none
def mL (c:dM) (run:Nat->C->St->Option (Ex × St)) (f:Nat) (args:List AV) (H:Heap):Option (AV × Heap):=
 match FP c f args H with
 |some x=>some x
 |none=>match c.fn f with
   |none=>none
   |some (md,fn)=>if args.length<=fn.n then
     match run H.length fn.body ⟨dL 0 args,H⟩ with
     |some (.ret,s)=>match p9 c s fn.res with
       |some vs=>bU md H.length s (nZ vs)
       |none=>none
     |some (.normal,s)=>match p9 c s fn.res with
       |some vs=>bU md H.length s (nZ vs)
       |none=>none
     |_=>none
     else none
def cE (c:dM):Nat->Nat->C->St->Option (Ex × St)
 |0,_,_,_=>none
 |n+1,base,cd,s=>match cd with
   |.skip=>some (.normal,s)
   |.ret=>some (.ret,s)
   |.exit id=>some (.exit id,s)
   |.rW os dr un keep=>match my c (mL c (cE c n)) os s with
     |some (s',pX)=>if dr=false\/Hj os pX un=true then (match Oe base keep s' with
       |some s2=>some (.normal,s2)
       |none=>none) else none
     |none=>none
   |.seq a b=>match cE c n base a s with
     |some (.normal,s')=>cE c n base b s'
     |r=>r
   |.cond x a b=>match aR c s.env x with
     |.bool t=>if t then cE c n base a s else cE c n base b s
     |_=>none
   |.aN id b=>match cE c n base b s with
     |some (.exit id',s')=>if id'=id then some (.normal,s') else some (.exit id',s')
     |r=>r
   |.loop b=>match cE c n base b s with
     |some (.normal,s')=>cE c n base (.loop b) s'
     |r=>r
def kA (c:dM) (n:Nat) (f:Nat) (args:List AV) (H:Heap):Option (AV × Heap):=mL c (cE c n) f args H

/-! The code for the older machine: what is empty and owned is nil -/
def dnV:AV->AV
 |.own _ []=>.di
 |v=>v
def tQ:List AV->List AV
 |[]=>[]
 |x::r=>dnV x::tQ r
def kO:E->E
 |.k x=>.k (dnV x)
 |x=>x
def Bk:List E->List E
 |[]=>[]
 |x::r=>kO x::Bk r
def dnO:Option E->Option E
 |some x=>some (kO x)
 |none=>none
def L6:List (Nat × Nat × E)->List (Nat × Nat × E)
 |[]=>[]
 |(i,j,x)::r=>(i,j,kO x)::L6 r
def kz:Kd->Kd
 |.mv x=>.mv (kO x)
 |.pick c a b=>.pick (kO c) (kO a) (kO b)
 |.new zs=>.new (tQ zs)
 |.box x=>.box (kO x)
 |.build zs ps=>.build (tQ zs) (L6 ps)
 |.eL k n zs ps=>.eL k n (tQ zs) (L6 ps)
 |.ld ag x=>.ld ag (kO x)
 |.st k a v=>.st k (kO a) (kO v)
 |.mA x=>.mA (kO x)
 |.bin op x y=>.bin op (kO x) (kO y)
 |.eq ng t x y=>.eq ng t (kO x) (kO y)
 |.un op x=>.un op (kO x)
 |.Jw k x=>.Jw k (kO x)
 |.KJ fn a b=>.KJ fn (Bk a) (Bk b)
 |.Jq k zs l cp=>.Jq k (tQ zs) (kO l) (kO cp)
 |.FC k x lo hi=>.FC k (kO x) (dnO lo) (dnO hi)
 |.Aa off x=>.Aa off (kO x)
 |.F9 n x hi=>.F9 n (kO x) (dnO hi)
 |.TR off ag x=>.TR off ag (kO x)
 |.tH k x i=>.tH k (kO x) (kO i)
 |.Ci n k x i=>.Ci n k (kO x) (kO i)
 |.ix n k ag x i=>.ix n k ag (kO x) (kO i)
 |.ext i x=>.ext i (kO x)
 |.call f args=>.call f (Bk args)
 |.iR x args=>.iR (kO x) (Bk args)
 |.Ty tab i=>.Ty tab (kO i)
 |.RZ k zs x=>.RZ k (tQ zs) (kO x)
 |.len x=>.len (kO x)
 |.app k x y=>.app k (kO x) (kO y)
 |.min xs=>.min (Bk xs)
 |.max xs=>.max (Bk xs)
 |.copy k x y=>.copy k (kO x) (kO y)
 |.AO=>.AO
 |.xz kt ok z x k=>.xz kt ok z (kO x) (kO k)
 |.yu kt x k v=>.yu kt (kO x) (kO k) (kO v)
 |.bad=>.bad
def L7 (o:O):O:=⟨o.dst,o.guard,kz o.kd⟩
def kE:E->Bool
 |.k x=>(aI x).isEmpty
 |_=>true
def kEs:List E->Bool
 |[]=>true
 |x::r=>kE x&&kEs r
def kEo:Option E->Bool
 |some x=>kE x
 |none=>true
def kPs:List (Nat × Nat × E)->Bool
 |[]=>true
 |p::r=>kE p.2.2&&kPs r
def xN:Kd->Bool
 |.mv x|.box x|.ld _ x|.mA x|.un _ x|.Jw _ x|.Aa _ x|.TR _ _ x|.ext _ x|.len x|.Ty _ x|.RZ _ _ x=>kE x
 |.pick c a b=>kE c&&(kE a&&kE b)
 |.new _=>true
 |.bad=>true
 |.AO=>true
 |.xz _ _ _ x k=>kE x&&kE k
 |.yu _ x k v=>kE x&&(kE k&&kE v)
 |.build zs ps=>(cU zs).isEmpty&&kPs ps
 |.eL _ _ zs ps=>(cU zs).isEmpty&&kPs ps
 |.st _ x y|.bin _ x y|.eq _ _ x y|.Jq _ _ x y|.tH _ x y|.Ci _ _ x y|.ix _ _ _ x y|.app _ x y|.copy _ x y=>kE x&&kE y
 |.KJ _ a b=>kEs a&&kEs b
 |.FC _ x lo hi=>kE x&&(kEo lo&&kEo hi)
 |.F9 _ x hi=>kE x&&kEo hi
 |.call _ xs|.min xs|.max xs=>kEs xs
 |.iR x xs=>kE x&&kEs xs
def EZ (un:List (Nat × Nat)) (i j:Nat) (x:O) (ys:List Nat) (q:O):Bool:=mem i ys||((!jF i i un&&!jF j j un)&&(iW x q&&((still x.kd&&still q.kd)||jF i j un)))
def tS (un:List (Nat × Nat)) (j:Nat) (ys:List Nat) (q:O):Nat->List O->Bool
 |_,[]=>true
 |i,x::r=>EZ un i j x ys q&&tS un j ys q (i+1) r
def nI (un:List (Nat × Nat)) (Aj:List (List Nat)) (seen:List O):List Oper->List O->Bool
 |y::r,q::s=>xN q.kd&&((direct y).all fun i=>decide (i<seen.length))&&tS un seen.length (Fk Aj y) q 0 seen&&nI un (Aj++[Fk Aj y]) (seen++[q]) r s
 |_,_=>true
def qW (P:Program) (N:Nat) (ops:Array Oper):List Oper->List O->Bool
 |[],[]=>true
 |o::r,q::s=>I9 P N ops o (L7 q)&&qW P N ops r s
 |_,_=>false
def F5 (P:Program) (N:Nat):Code->C->Bool
 |.skip,.skip=>true
 |.ret,.ret=>true
 |.exit i,.exit j=>decide (i=j)
 |.region _ ops d,.rW os dr un _=>decide (d=dr)&&qW P N ops ops.toList os&&(!dr||nI un [] [] ops.toList os)
 |.seq a b,.seq x y=>F5 P N a x&&F5 P N b y
 |.cond c a b,.cond c' x y=>cH c (kO c')&&F5 P N a x&&F5 P N b y
 |.block i b,.aN j x=>decide (i=j)&&F5 P N b x
 |.loop b,.loop x=>F5 P N b x
 |.label _,.skip=>true
 |.scope b,.seq .skip x=>F5 P N b x
 |_,_=>false
def cY (P:Program) (fn:Func) (q:gR):Bool:=
 decide (fn.ntmps = q.n) && decide (fn.ntmps <= eW) && !(fn.name == "runtime.NumGoroutine") && B7 P fn.results.toList q.res && (match fn.body with
  |some c=>F5 P q.n c q.body
  |none=>false)
structure eM (P:Program) (c:dM):Prop where
 mixed:P.follows .mixedOrders=true
 fn:∀f m q,c.fn f=some (m,q)->∃fn,P.funcs[f]?=some fn/\cY P fn q=true
end Go.Bm
