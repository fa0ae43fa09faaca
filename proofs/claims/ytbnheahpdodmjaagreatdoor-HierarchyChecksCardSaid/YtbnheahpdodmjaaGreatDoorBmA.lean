/- The machine by value: a slice that is owned is a value, too; others that refer to it borrow it from its place. -/
import Derived.Test.YtbnheahpdodmjaaGreatDoorMa
set_option linter.unusedVariables false

open Bool renaming and_eq_true → ae, false_eq_true → bk
open Nat renaming beq → mP, eq_of_beq_eq_true → cG
namespace Go.Bm
open Go.Am

structure Md where
 sh:Bool
 ow:Bool
 cl:Bool
 deriving Inhabited
structure eI where
 fn:Nat->Option (Md × fW)
 gl:Nat->List AV
 orc:Nat->Option (List AV->Heap->Option (AV × Heap))
 inp:Nat->Option (Nat->List AV->List AV->Option (List AV × Option Nat))
 eat:Nat->Option (Nat->List AV->List AV->Option (List AV)):=fun _=>none
 loc:Nat->Bool:=fun _=>false
 emp:Nat->Bool:=fun _=>false
 mov:Nat->Option Nat:=fun _=>none

def fw:Nat:=1000000
def nK:Nat:=500000
def UW:Nat:=1000000
def yh (b j:Nat):Nat:=b+(j+1)*UW
def Qf (b x:Nat):Bool:=decide (UW<=x)&&(decide (b<=x)&&decide ((x-b)%UW=0))
def pD (b:Nat):List Nat->Bool
 |[]=>false
 |x::r=>decide (x=b)||(Qf b x||pD b r)
def marks:List Nat->List Nat
 |[]=>[]
 |i::r=>(i+nK)::marks r

/-! Values -/
mutual
def cT (g:AV->AV):AV->AV
 |.dP k p off len=>g (.dP k p off len)
 |.fv k p i off=>g (.fv k p i off)
 |.agg cs=>.agg (dc g cs)
 |.dt cs=>.dt (dc g cs)
 |.func f a b=>.func f (dc g a) (dc g b)
 |.any=>.any|.undef=>.undef|.fN=>.fN|.fS=>.fS|.du=>.du
 |.int k n=>.int k n|.bool b=>.bool b|.str s=>.str s
 |.list k xs=>.list k xs|.dy cs=>.dy cs|.ptr b off=>.ptr b off|.sl k b off len=>.sl k b off len
 |.own k xs=>.own k xs
def dc (g:AV->AV):List AV->List AV
 |[]=>[]
 |x::r=>cT g x::dc g r
end
mutual
def aS:AV->List Rt
 |.dP _ p _ _=>[p]
 |.fv _ p _ _=>[p]
 |.agg cs=>dn cs
 |.dt cs=>dn cs
 |.func _ a b=>dn a++dn b
 |_=>[]
def dn:List AV->List Rt
 |[]=>[]
 |x::r=>aS x++dn r
end
mutual
def pl:AV->Bool
 |.own _ _|.dP _ _ _ _|.fv _ _ _ _|.ptr _ _|.sl _ _ _ _=>false
 |.agg cs=>dq cs
 |.dt cs=>dq cs
 |.func f a b=>!Ew f&&(dq a&&dq b)
 |_=>true
def dq:List AV->Bool
 |[]=>true
 |x::r=>pl x&&dq r
end
def fz (x:AV):Bool:=x.leaf&&pl x
def E8:List AV->Bool
 |[]=>true
 |x::r=>fz x&&E8 r
def bT:List AV->Bool
 |[]=>false
 |.own _ _::_=>true
 |_::r=>bT r
def bV:AV->Bool
 |.own _ _=>true
 |.agg cs=>bT cs
 |_=>false
mutual
def clean:AV->Bool
 |.list _ xs=>xs.isEmpty
 |.dy _|.any|.func _ _ _|.dP _ _ _ _|.fv _ _ _ _|.ptr _ _|.sl _ _ _ _=>false
 |.own _ xs=>im xs
 |.agg cs=>im cs
 |.dt cs=>im cs
 |_=>true
def im:List AV->Bool
 |[]=>true
 |x::r=>clean x&&im r
end

/-! Places -/
def fc (f:Nat->Rt):Nat->List AV->List AV
 |_,[]=>[]
 |j,.own k xs::r=>.dP k (f j) 0 xs.length::fc f (j+1) r
 |j,x::r=>x::fc f (j+1) r
def fo (i:Nat):AV->AV
 |.own k xs=>.dP k (.s i) 0 xs.length
 |.agg cs=>.agg (fc (.sc i) 0 cs)
 |v=>v
def at_ (s:St):Rt->Option AV
 |.s i=>some (get s.env i)
 |.sc i j=>match get s.env i with
   |.agg cs=>cs[j]?
   |_=>none
 |.c b j=>match aJ s.H b with
   |some cs=>cs[j]?
   |none=>none
def az (s:St) (p:Rt):Option (Nat × List AV):=
 match at_ s p with
 |some (.own k xs)=>some (k,xs)
 |_=>none
def setAt (s:St) (p:Rt) (v:AV):St:=
 match p with
 |.s i=>⟨put s.env i v,s.H⟩
 |.sc i j=>match get s.env i with
   |.agg cs=>⟨put s.env i (.agg (cs.set j v)),s.H⟩
   |_=>s
 |.c b j=>match aJ s.H b with
   |some cs=>⟨s.env,s.H.set b (some (cs.set j v))⟩
   |none=>s
def lZ (g:AV->AV):Env->Env
 |[]=>[]
 |(i,v)::r=>(i,cT g v)::lZ g r
def gn (g:AV->AV):Heap->Heap
 |[]=>[]
 |none::r=>none::gn g r
 |some cs::r=>some (dc g cs)::gn g r
def cB (g:AV->AV) (s:St):St:=⟨lZ g s.env,gn g s.H⟩

def sw (p:Rt):AV->AV
 |.dP k q off len=>if q=p then .any else .dP k q off len
 |.fv k q i off=>if q=p then .any else .fv k q i off
 |v=>v
def rt (p q:Rt) (n:Nat):AV->AV
 |.dP k r off len=>if r=p then (if off+len<=n then .dP k q off len else .any) else .dP k r off len
 |.fv k r i off=>if r=p then (if i<n then .fv k q i off else .any) else .fv k r i off
 |v=>v
def fb (p:Rt) (k:Nat) (xs:List AV):AV->AV
 |.dP k' q off len=>if q=p then (if k'=k/\off+len<=xs.length then .list k ((xs.drop off).take len) else .any) else .dP k' q off len
 |.fv k' q i off=>if q=p then (if k'=k then match xs[i]? with
   |some x=>.dy (x.cells.drop off)
   |none=>.any
   else .any) else .fv k' q i off
 |v=>v
def LD (s:St) (p:Rt):St:=
 match az s p with
 |some (k,xs)=>setAt (cB (fb p k xs) s) p (.list k xs)
 |none=>s
def eE:List Rt->St->St
 |[],s=>s
 |p::r,s=>eE r (LD s p)

def UF (p:Rt) (q:Rt):AV->Option Rt
 |.dP _ r _ _=>if r=p then some q else none
 |_=>none
def QH (p:Rt) (f:Nat->Rt):Nat->List AV->Option Rt
 |_,[]=>none
 |j,x::r=>match UF p (f j) x with
   |some y=>some y
   |none=>QH p f (j+1) r
def borS (p:Rt) (i:Nat):AV->Option Rt
 |.agg cs=>QH p (.sc i) 0 cs
 |v=>UF p (.s i) v
def borE (p:Rt):Env->Option Rt
 |[]=>none
 |(i,v)::r=>match borS p i v with
   |some y=>some y
   |none=>borE p r
def borH (p:Rt):Nat->Heap->Option Rt
 |_,[]=>none
 |b,none::r=>borH p (b+1) r
 |b,some cs::r=>match QH p (.c b) 0 cs with
   |some y=>some y
   |none=>borH p (b+1) r
def Ug (p:Rt) (s:St):Option Rt:=
 match borS p fw (get s.env fw) with
 |some y=>some y
 |none=>match borE p s.env with
   |some y=>some y
   |none=>borH p 0 s.H
def rel (s:St) (p:Rt):St:=
 match az s p with
 |none=>s
 |some (k,xs)=>match Ug p s with
   |none=>setAt (cB (sw p) s) p .any
   |some q=>match at_ s q with
     |some (.dP _ r 0 len)=>if r=p then setAt (setAt (cB (rt p q len) s) p .any) q (.own k (xs.take len)) else LD s p
     |_=>LD s p
def MM (i:Nat):Nat->List AV->St->St
 |_,[],s=>s
 |j,.own _ _::r,s=>MM i (j+1) r (rel s (.sc i j))
 |j,_::r,s=>MM i (j+1) r s
def EN (s:St) (i:Nat):St:=
 match get s.env i with
 |.own _ _=>rel s (.s i)
 |.agg cs=>MM i 0 cs s
 |_=>s
def qg (keep:List Nat):Env->St->St
 |[],s=>s
 |(i,_)::r,s=>qg keep r (if mem i keep then s else EN s i)
def uB (keep:List Nat):Env->Bool
 |[]=>false
 |(i,v)::r=>(!mem i keep&&bV v)||uB keep r

def kf (i d:Nat):Rt->Rt
 |.s j=>if j=i then .s d else .s j
 |.sc j l=>if j=i then .sc d l else .sc j l
 |.c b j=>.c b j
def mvB (i d:Nat):AV->AV
 |.dP k p off len=>.dP k (kf i d p) off len
 |.fv k p l off=>.fv k (kf i d p) l off
 |v=>v
def Qt (s:St) (d:Nat):St:=
 let s1:=cB (mvB fw d) s
 ⟨put (put s1.env fw .any) d (get s1.env fw),s1.H⟩
def Ai (f:Rt->Bool):List Rt->Bool
 |[]=>false
 |p::r=>f p||Ai f r
def Mm (f:Rt->Bool):Env->Bool
 |[]=>false
 |(_,v)::r=>Ai f (aS v)||Mm f r
def Mk (f:Rt->Bool):Heap->Bool
 |[]=>false
 |none::r=>Mk f r
 |some cs::r=>Ai f (dn cs)||Mk f r
def Mn (f:Rt->Bool) (s:St) (v:AV):Bool:=Ai f (aS v)||(Mm f s.env||Mk f s.H)
def bL (d:Nat):Rt->Bool
 |.s i=>decide (i=d)
 |.sc i _=>decide (i=d)
 |.c _ _=>false
def de (b off k:Nat):Rt->Bool
 |.c c j=>decide (c=b)&&(decide (off<=j)&&decide (j<off+k))
 |_=>false
def Rm (s:St) (d:Nat) (v:AV):Bool:=bV (get s.env d)&&Mn (bL d) s v
def putB (s:St) (d:Nat) (v:AV):Option St:=
 if Rm s d v then
  match get s.env fw with
  |.any=>if bV (get (EN ⟨put s.env fw v,s.H⟩ d).env d) then none else some (Qt (EN ⟨put s.env fw v,s.H⟩ d) d)
  |_=>none
 else some ⟨put s.env d v,s.H⟩
def BR (s:St) (d:Option Nat) (v:AV):Option St:=
 match d with
 |some d=>putB s d v
 |none=>some s

/-! Boxes that nobody refers to -/
mutual
def uu (b:Nat):AV->Bool
 |.ptr c _=>decide (c≠b)
 |.sl _ c _ _=>decide (c≠b)
 |.dP _ (.c d _) _ _=>decide (d≠b)
 |.fv _ (.c d _) _ _=>decide (d≠b)
 |.agg cs=>lk b cs
 |.dt cs=>lk b cs
 |.func _ x y=>lk b x&&lk b y
 |_=>true
def lk (b:Nat):List AV->Bool
 |[]=>true
 |x::r=>uu b x&&lk b r
end
def Fu (b:Nat):Env->Bool
 |[]=>true
 |(_,v)::r=>uu b v&&Fu b r
def zH (b:Nat):Heap->Bool
 |[]=>true
 |none::r=>zH b r
 |some cs::r=>lk b cs&&zH b r
def trim (base:Nat) (env:Env):Nat->Heap->Heap
 |0,H=>H
 |n+1,H=>if base<=n/\H.length=n+1/\Fu n env=true/\zH n (H.take n)=true then trim base env n (H.take n) else H
def endK (base:Nat) (keep:List Nat) (s:St):St:=⟨tC keep s.env,trim base (tC keep s.env) s.H.length s.H⟩
def WW (base:Nat) (keep:List Nat) (s:St):Option St:=
 if uB keep s.env then
  if uB keep (qg keep s.env s).env then none else some (endK base keep (qg keep s.env s))
 else some (endK base keep s)

/-! Operations -/
def bp (c:eI) (env:Env):E->AV
 |.t i=>fo i (get env i)
 |.k x=>x
 |.g i=>.dy (c.gl i)
def dC (c:eI) (env:Env):List E->List AV
 |[]=>[]
 |x::r=>bp c env x::dC c env r
def cont (s:St) (k:Nat):AV->Option (List AV)
 |.list k' xs=>if k'=k then some xs else none
 |.own _ []=>some []
 |.dP k' p off len=>match az s p with
   |some (AX,xs)=>if k'=k/\AX=k/\off+len<=xs.length then some ((xs.drop off).take len) else none
   |none=>none
 |_=>none
def WT:AV->Option AV
 |.own k xs=>some (.list k xs)
 |x=>if fz x then some x else none
def BW:List AV->Option (List AV)
 |[]=>some []
 |x::r=>match WT x,BW r with
   |some y,some ys=>some (y::ys)
   |_,_=>none
def T9 (s:St) (k b off len:Nat):Option AV:=
 match aJ s.H b with
 |some cs=>if k=1/\off+len<=cs.length then match BW ((cs.drop off).take len) with
   |some ys=>some (.list 1 ys)
   |none=>none
   else none
 |none=>none
mutual
def mU (sh:Bool) (s:St):AV->Option AV
 |.dP k p off len=>match az s p with
   |some (k',xs)=>if k'=k/\off+len<=xs.length then some (.list k ((xs.drop off).take len)) else none
   |none=>none
 |.own _ _=>none
 |.agg cs=>match FZ sh s cs with
   |some ds=>some (.agg ds)
   |none=>none
 |.dt cs=>match FZ sh s cs with
   |some ds=>some (.dt ds)
   |none=>none
 |.func f a b=>match FZ sh s a,FZ sh s b with
   |some a',some b'=>some (.func f a' b')
   |_,_=>none
 |.ptr b off=>if sh then some (.ptr b off) else none
 |.fv _ _ _ _=>none
 |.sl _ _ _ _=>none
 |.any=>none
 |x=>some x
def FZ (sh:Bool) (s:St):List AV->Option (List AV)
 |[]=>some []
 |x::r=>match mU sh s x,FZ sh s r with
   |some y,some ys=>some (y::ys)
   |_,_=>none
end
mutual
def WS (s:St):AV->Option AV
 |.sl k b off len=>T9 s k b off len
 |.dt cs=>match OK s cs with
   |some ds=>some (.dt ds)
   |none=>none
 |x=>mU false s x
def OK (s:St):List AV->Option (List AV)
 |[]=>some []
 |x::r=>match WS s x,OK s r with
   |some y,some ys=>some (y::ys)
   |_,_=>none
end
def eK:AV->AV
 |.own k []=>.list k []
 |v=>v
def wY (s:St):List AV->Option (List AV)
 |[]=>some []
 |.own k []::r=>match wY s r with
   |some ys=>some (.list k []::ys)
   |none=>none
 |.sl k b off len::r=>match T9 s k b off len,wY s r with
   |some y,some ys=>some (y::ys)
   |_,_=>none
 |x::r=>match mU false s x,wY s r with
   |some y,some ys=>some (y::ys)
   |_,_=>none
def Ja:List AV->List Rt
 |[]=>[]
 |.sl _ b _ _::r=>.c b 1::Ja r
 |_::r=>Ja r
mutual
def jR:AV->Bool
 |.own _ _|.dP _ _ _ _|.fv _ _ _ _=>false
 |.agg cs=>eZ cs
 |.dt cs=>eZ cs
 |.func _ a b=>eZ a&&eZ b
 |_=>true
def eZ:List AV->Bool
 |[]=>true
 |x::r=>jR x&&eZ r
end
def wK:AV->Option Nat
 |.du=>some 0
 |.own _ []=>some 0
 |.list _ xs=>some xs.length
 |.dP _ _ _ len=>some len
 |.sl _ _ _ len=>some len
 |_=>none
def Da (c:eI) (env:Env) (dflt hi:Nat):Option E->Option Nat
 |none=>some dflt
 |some x=>bnd (bp c env x) hi
def sE (c:eI) (env:Env):List AV->List (Nat × Nat × E)->Option (List AV)
 |zs,[]=>some zs
 |zs,(off,sz,x)::r=>
   if (bp c env x).cells.length=sz/\off+sz<=zs.length/\bC (bp c env x).cells=true then sE c env (j9 zs off (bp c env x).cells) r else none
def iB:Et->AV->Option Bool
 |.V8,.du=>some true
 |.V8,.dP _ _ _ len=>if len=0 then none else some false
 |.V8,.list _ (_::_)=>some false
 |.V8,.sl _ _ _ _=>some false
 |.KI,.fN=>some true
 |.KI,.ptr _ _=>some false
 |.KI,.dy _=>some false
 |.nfn,.fS=>some true
 |.nfn,.func f _ _=>if Ew f then none else some false
 |_,_=>none
def eqB:Et->AV->AV->Option Bool
 |.bool,.bool a,.bool b=>some (a == b)
 |.str l,.agg xs,.agg ys=>Bb l xs ys
 |.V8,x,.own _ []=>iB .V8 x
 |.V8,x,.du=>iB .V8 x
 |.KI,x,.fN=>iB .KI x
 |.nfn,x,.fS=>iB .nfn x
 |_,_,_=>none
def PJ (ag:Option Nat) (cs:List AV):Option AV:=
 match Fj ag cs with
 |some v=>if bV v then none else some v
 |none=>none
def VZ (c:eI) (env:Env):Kd->Option AV
 |.mv x=>some (bp c env x)
 |.pick t a b=>match bp c env t with
   |.bool t=>some (if t then bp c env a else bp c env b)
   |_=>none
 |.build zs ps=>match sE c env zs ps with
   |some cs=>some (.agg cs)
   |none=>none
 |.oS x=>match bp c env x with
   |.ptr b off=>some (.ptr b off)
   |.dy cs=>some (.dy cs)
   |.func (.func f) a b=>some (.func (.func f) a b)
   |_=>none
 |.bin op x y=>sP op (bp c env x) (bp c env y)
 |.eq ng t x y=>match eqB t (bp c env x) (bp c env y) with
   |some e=>some (.bool (if ng then !e else e))
   |none=>none
 |.un op x=>Vr op (bp c env x)
 |.Q5 k x=>match bp c env x with
   |.int _ n=>some (.int k (k.wrap n))
   |_=>none
 |.U0 fn a b=>if Ew fn||bT (dC c env a++dC c env b) then none else some (.func fn (dC c env a) (dC c env b))
 |.Fc k x lo hi=>match wK (bp c env x) with
   |some n=>match Da c env n n hi with
     |some h=>match Da c env 0 h lo with
       |some l=>match bp c env x with
         |.own k' xs=>if k'=k then some (.own k xs) else none
         |.list k' xs=>if k'=k then some (.list k ((xs.take h).drop l)) else none
         |.dP k' p off _=>if k'=k then some (.dP k p (off+l) (h-l)) else none
         |.sl k' b off _=>if k'=k then some (.sl k b (off+l*k) (h-l)) else none
         |_=>none
       |none=>none
     |none=>none
   |none=>none
 |.yf off x=>match bp c env x with
   |.ptr b o=>some (.ptr b (o+off))
   |.dy cs=>some (.dy (cs.drop off))
   |.fv k p i o=>some (.fv k p i (o+off))
   |_=>none
 |.Na n x hi=>match hi with
   |none=>match bp c env x with
     |.dy cs=>if n<=cs.length/\bC (cs.take n)=true then some (.list 1 (cs.take n)) else none
     |_=>none
   |some _=>none
 |.fld off ag x=>match bp c env x with
   |.agg cs=>PJ ag (cs.drop off)
   |_=>none
 |.qc k x i=>match bp c env x with
   |.list k' xs=>match idx (bp c env i) xs.length with
     |some j=>if k'=k then match xs[j]? with
       |some v=>some (.dy v.cells)
       |none=>none
       else none
     |none=>none
   |.dP k' p off len=>match idx (bp c env i) len with
     |some j=>if k'=k then some (.fv k p (off+j) 0) else none
     |none=>none
   |.sl k' b off len=>match idx (bp c env i) len with
     |some j=>if k'=k then some (.ptr b (off+j*k)) else none
     |none=>none
   |_=>none
 |.Ic n k x i=>match idx (bp c env i) n with
   |some j=>match bp c env x with
     |.ptr b off=>some (.ptr b (off+j*k))
     |.dy cs=>some (.dy (cs.drop (j*k)))
     |.fv k' p l off=>some (.fv k' p l (off+j*k))
     |_=>none
   |none=>none
 |.ix n k ag x i=>match idx (bp c env i) n with
   |some j=>match bp c env x with
     |.agg cs=>PJ ag (cs.drop (j*k))
     |_=>none
   |none=>none
 |.ixs tab i=>match idx (bp c env i) tab.length with
   |some j=>match tab[j]? with
     |some v=>some (.int .u8 v)
     |none=>none
   |none=>none
 |.ext i x=>match bp c env x with
   |.dt vs=>match vs[i]? with
     |some v=>if bV v then none else some v
     |none=>none
   |_=>none
 |.len x=>match wK (bp c env x) with
   |some n=>some (.int .i64 n)
   |none=>none
 |.min xs=>Br false (dC c env xs)
 |.max xs=>Br true (dC c env xs)
 |_=>none

def ig (c:eI) (env:Env):List (Nat × Nat × E)->List Rt
 |[]=>[]
 |(_,_,x)::r=>aS (bp c env x)++ig c env r
inductive Fq where
 |no|rc (b j:Nat)|rd (ps:List Rt)|al (n:Nat)|wr (sl:List Nat) (bs:Option (List Nat))|all|sp|bo (ps:List Rt)|lw (b:Nat)
 deriving Inhabited
def zS (p:Rt):List Rt->Bool
 |[]=>false
 |q::r=>decide (q=p)||zS p r
def isRoot (p:Rt) (i:Nat):Bool:=
 match p with
 |.s j=>decide (j=i)
 |.sc j _=>decide (j=i)
 |.c _ _=>false
def nN (p:Rt):Env->List Nat
 |[]=>[]
 |(i,v)::r=>if zS p (aS v)||isRoot p i then i::nN p r else nN p r
def ui (p:Rt):Nat->Heap->List Nat
 |_,[]=>[]
 |b,none::r=>ui p (b+1) r
 |b,some cs::r=>if zS p (dn cs) then b::ui p (b+1) r else ui p (b+1) r
def ga:List Rt->Bool
 |[]=>false
 |.c _ _::_=>true
 |_::r=>ga r
def gW:Env->List Nat
 |[]=>[]
 |(i,v)::r=>if ga (aS v) then i::gW r else gW r
def Re (k:Nat) (x:AV) (off:Nat) (vs:List AV):AV:=if off=0/\vs.length=k then el vs else el (j9 x.cells off vs)
def CC (s:St) (ag:Option Nat):AV->Option (AV × List Rt)
 |.dy cs=>match PJ ag cs with
   |some v=>some (v,[])
   |none=>none
 |.ptr b off=>match aJ s.H b with
   |some cs=>match PJ ag ((fc (.c b) 0 cs).drop off) with
     |some v=>some (v,[.c b (if (aS v).isEmpty then 1 else 0)])
     |none=>none
   |none=>none
 |.fv k p i off=>match az s p with
   |some (k',xs)=>if k'=k then match xs[i]? with
     |some x=>match PJ ag (x.cells.drop off) with
       |some v=>some (v,[p])
       |none=>none
     |none=>none
     else none
   |none=>none
 |_=>none
def wx (b:Nat):Nat->Nat->St->St
 |_,0,s=>s
 |j,n+1,s=>wx b (j+1) n (match az s (.c b j) with
   |some _=>rel s (.c b j)
   |none=>s)
def gM (i b off:Nat):Rt->Rt
 |.s j=>if j=i then .c b off else .s j
 |.sc j l=>if j=i then .c b (off+l) else .sc j l
 |.c d j=>.c d j
def iP (i b off:Nat):AV->AV
 |.dP k p o len=>.dP k (gM i b off p) o len
 |.fv k p l o=>.fv k (gM i b off p) l o
 |v=>v
def nu (s:St) (b off k:Nat):Option St:=
 match aJ (cB (iP fw b off) s).H b with
 |some cs=>if (get (cB (iP fw b off) s).env fw).cells.length=k/\off+k<=cs.length/\bT ((cs.drop off).take k)=false/\bC (get (cB (iP fw b off) s).env fw).cells=true then
   some ⟨put (cB (iP fw b off) s).env fw .any,(cB (iP fw b off) s).H.set b (some (j9 cs off (get (cB (iP fw b off) s).env fw).cells))⟩
   else none
 |none=>none
def BD (s:St) (b off k:Nat) (v:AV):Option (St × Fq):=
 match aJ s.H b with
 |some cs=>if v.cells.length=k/\off+k<=cs.length/\bC v.cells=true then
   if bT ((cs.drop off).take k)&&Mn (de b off k) s v then
    match get s.env fw with
    |.any=>match nu (wx b off k ⟨put s.env fw v,s.H⟩) b off k with
      |some s'=>some (s',.all)
      |none=>none
    |_=>none
   else some (⟨s.env,s.H.set b (some (j9 cs off v.cells))⟩,.wr [] (some [b]))
   else none
 |none=>none
def rootOf:Rt->List Nat
 |.s i=>[i]
 |.sc i _=>[i]
 |.c _ _=>[]
def mW:Rt->List Nat
 |.c b _=>[b]
 |_=>[]
def aaJ:Rt->List Nat
 |.c b _=>[yh b 99999]
 |_=>[]
def UZ (s:St) (k:Nat) (a v:AV):Option (St × Fq):=
 match a with
 |.ptr b off=>BD s b off k v
 |.fv k' p i off=>match az s p with
   |some (AX,xs)=>if AX=k' then match xs[i]? with
     |some x=>if v.cells.length=k/\off+k<=k'/\E8 v.cells=true then some (setAt s p (.own k' (xs.set i (Re k' x off v.cells))),.wr (marks (rootOf p)) (some (aaJ p))) else none
     |none=>none
     else none
   |none=>none
 |_=>none

def pE:AV->AV
 |.dP _ (.c _ _) _ _=>.any
 |.fv _ (.c _ _) _ _=>.any
 |x=>x
def eJ:Rt->Bool
 |.c _ _=>false
 |_=>true
def kg:Heap->Bool
 |[]=>true
 |none::_=>false
 |some cs::r=>!Ai eJ (dn cs)&&kg r
def qS:AV->AV
 |.dP k (.c b j) off len=>.dP k (.c b j) off len
 |.fv k (.c b j) i off=>.fv k (.c b j) i off
 |.dP _ _ _ _=>.any
 |.fv _ _ _ _=>.any
 |x=>x
def fnE:Fn->Fn->Bool
 |.func f,y=>match y with|.func g=>mP f g|_=>false
 |_,_=>false
mutual
def tS:AV->AV->Bool
 |.any,y=>match y with|.any=>true|_=>false
 |.undef,y=>match y with|.undef=>true|_=>false
 |.fN,y=>match y with|.fN=>true|_=>false
 |.fS,y=>match y with|.fS=>true|_=>false
 |.du,y=>match y with|.du=>true|_=>false
 |.int k n,y=>match y with|.int k' n'=>decide (k=k')&&decide (n=n')|_=>false
 |.bool b,y=>match y with|.bool b'=>b == b'|_=>false
 |.str _,_=>false
 |.agg x,y=>match y with|.agg x'=>nJ x x'|_=>false
 |.dt x,y=>match y with|.dt x'=>nJ x x'|_=>false
 |.list k x,y=>match y with|.list k' x'=>mP k k'&&nJ x x'|_=>false
 |.dy x,y=>match y with|.dy x'=>nJ x x'|_=>false
 |.ptr b o,y=>match y with|.ptr b' o'=>mP b b'&&mP o o'|_=>false
 |.sl k b o l,y=>match y with|.sl k' b' o' l'=>(mP k k'&&mP b b')&&(mP o o'&&mP l l')|_=>false
 |.func f a b,y=>match y with|.func f' a' b'=>fnE f f'&&(nJ a a'&&nJ b b')|_=>false
 |.own k x,y=>match y with|.own k' x'=>mP k k'&&nJ x x'|_=>false
 |.dP k p o l,y=>match y with|.dP k' p' o' l'=>(mP k k'&&decide (p=p'))&&(mP o o'&&mP l l')|_=>false
 |.fv k p i o,y=>match y with|.fv k' p' i' o'=>(mP k k'&&decide (p=p'))&&(mP i i'&&mP o o')|_=>false
def nJ:List AV->List AV->Bool
 |[],y=>match y with|[]=>true|_=>false
 |a::r,y=>match y with|b::s=>tS a b&&nJ r s|_=>false
end
theorem ale:∀{f g:Fn},fnE f g=true->f=g:=by
 intro f g h;cases f<;>cases g<;>simp only[fnE,bk] at h
 rw[cG h]
mutual
theorem alz:∀(a b:AV),tS a b=true->a=b
 |.any,b,h=>by cases b<;>first|rfl|(simp[tS] at h; done)
 |.undef,b,h=>by cases b<;>first|rfl|(simp[tS] at h; done)
 |.fN,b,h=>by cases b<;>first|rfl|(simp[tS] at h; done)
 |.fS,b,h=>by cases b<;>first|rfl|(simp[tS] at h; done)
 |.du,b,h=>by cases b<;>first|rfl|(simp[tS] at h; done)
 |.int k n,b,h=>by
   cases b<;>first|(simp[tS] at h; done)|skip
   simp only[tS,ae,decide_eq_true_eq] at h;rw[h.1,h.2]
 |.bool x,b,h=>by
   cases b<;>first|(simp[tS] at h; done)|skip
   simp only[tS,beq_iff_eq] at h;rw[h]
 |.str _,b,h=>by simp[tS] at h
 |.agg x,b,h=>by
   cases b<;>first|(simp[tS] at h; done)|skip
   simp only[tS] at h;rw[sQ _ _ h]
 |.dt x,b,h=>by
   cases b<;>first|(simp[tS] at h; done)|skip
   simp only[tS] at h;rw[sQ _ _ h]
 |.dy x,b,h=>by
   cases b<;>first|(simp[tS] at h; done)|skip
   simp only[tS] at h;rw[sQ _ _ h]
 |.list k x,b,h=>by
   cases b<;>first|(simp[tS] at h; done)|skip
   simp only[tS,ae] at h;rw[cG h.1,sQ _ _ h.2]
 |.own k x,b,h=>by
   cases b<;>first|(simp[tS] at h; done)|skip
   simp only[tS,ae] at h;rw[cG h.1,sQ _ _ h.2]
 |.ptr k x,b,h=>by
   cases b<;>first|(simp[tS] at h; done)|skip
   simp only[tS,ae] at h;rw[cG h.1,cG h.2]
 |.sl k x y z,b,h=>by
   cases b<;>first|(simp[tS] at h; done)|skip
   simp only[tS,ae] at h;rw[cG h.1.1,cG h.1.2,cG h.2.1,cG h.2.2]
 |.func f x y,b,h=>by
   cases b<;>first|(simp[tS] at h; done)|skip
   simp only[tS,ae] at h;rw[ale h.1,sQ _ _ h.2.1,sQ _ _ h.2.2]
 |.dP k x y z,b,h=>by
   cases b<;>first|(simp[tS] at h; done)|skip
   simp only[tS,ae,decide_eq_true_eq] at h;rw[cG h.1.1,h.1.2,cG h.2.1,cG h.2.2]
 |.fv k x y z,b,h=>by
   cases b<;>first|(simp[tS] at h; done)|skip
   simp only[tS,ae,decide_eq_true_eq] at h;rw[cG h.1.1,h.1.2,cG h.2.1,cG h.2.2]
theorem sQ:∀(x y:List AV),nJ x y=true->x=y
 |[],y,h=>by cases y<;>first|rfl|(simp[nJ] at h; done)
 |a::r,y,h=>by
   cases y with
   |nil=>simp[nJ] at h
   |cons b s=>
     simp only[nJ,ae] at h;rw[alz _ _ h.1,sQ _ _ h.2]
end
def yz:Vf->Vf->Bool
 |none,y=>match y with|none=>true|some _=>false
 |some x,y=>match y with|some x'=>nJ x x'|none=>false
theorem ah9 {x y:Vf} (h:yz x y=true):x=y:=by
 cases x<;>cases y<;>simp only[yz,bk] at h
 ·rfl
 ·rw[sQ _ _ h]
mutual
def zz:AV->List Nat
 |.ptr b _=>[b]
 |.sl _ b _ _=>[b]
 |.agg cs=>iy cs
 |.dt cs=>iy cs
 |.func _ a b=>iy a++iy b
 |_=>[]
def iy:List AV->List Nat
 |[]=>[]
 |x::r=>zz x++iy r
end
def pB:Vf->Bool
 |some cs=>!bT cs&&(dn cs).isEmpty
 |none=>false
def eS (l:List Nat):Nat->Heap->Heap->Option (List Nat)
 |_,[],[]=>some []
 |b,x::H,y::H'=>match eS l (b+1) H H' with
   |some r=>if mem b l then some r else if yz x y then some (if pB x then r else (b+nK)::r) else none
   |none=>none
 |_,_,_=>none
def lj (l:List Nat):Option (List Nat)->Option (List Nat)
 |some r=>some (l++r)
 |none=>none
mutual
def nob:AV->AV
 |.dP k p off n=>if n=0 then .list k [] else .dP k p off n
 |.agg cs=>.agg (Eg cs)
 |v=>v
def Eg:List AV->List AV
 |[]=>[]
 |x::r=>nob x::Eg r
end
def qM (c:eI) (env:Env):Kd->Option (Nat × List AV)
 |.call f args=>some (f,dC c env args)
 |.jC x args=>match bp c env x with
   |.func (.func f) a b=>if bT a||bT b then none else some (f,a++dC c env args++b)
   |_=>none
 |_=>none
def getArgs (c:eI) (env:Env) (kd:Kd):Option (Nat × List AV):=
 match qM c env kd with
 |some (f,args)=>some (f,if c.emp f=true then Eg args else args)
 |none=>none
def Su (r:AV):Bool:=clean r&&(match r with
 |.own _ _=>true
 |r=>!bV r)
def o7 (s:St):List Rt->Fq
 |[p]=>match az s p with
   |some _=>.wr (nN p s.env) (some (mW p++ui p 0 s.H))
   |none=>.all
 |_=>.all
def eL (c:eI) (call:Nat->List AV->Heap->Option (AV × Heap)) (kd:Kd) (s:St):Option (AV × St × Fq):=
 match getArgs c s.env kd with
 |none=>none
 |some (f,args)=>match c.fn f with
   |none=>none
   |some (md,_)=>
     if md.cl&&!md.sh then
      match wY s args with
      |none=>none
      |some uH=>match call f uH [] with
        |some (r,_)=>if Su r then some (r,s,if (dn args++Ja args).isEmpty then .no else .rd (dn args++Ja args)) else none
        |none=>none
     else match getArgs c (eE (dn args) s).env kd with
      |none=>none
      | some (f1, qP) => if f1 = f then
           if md.sh then
            if eZ (qP.map eK)&&kg (eE (dn args) s).H then match call f (qP.map eK) (eE (dn args) s).H with
              |some (r,H')=>if ((aS r).isEmpty&&!bV r)&&kg H' then some (r,⟨lZ pE (eE (dn args) s).env,H'⟩,if (dn args).isEmpty then .wr (gW s.env) (lj (iy qP) (eS (iy qP) 0 (eE (dn args) s).H H')) else .all) else none
              |none=>none
            else none
           else if dq (qP.map eK) then match call f (qP.map eK) [] with
            |some (r,_)=>if pl r then some (r,eE (dn args) s,if (dn args).isEmpty then .no else o7 s (dn args)) else none
            |none=>none
           else none
        else none

def inpV (k:Nat) (p:Rt):Option Nat->AV
 |none=>.dt []
 |some m=>.dP k p 0 m
def inpL (k:Nat):Option Nat->AV
 |none=>.dt []
 |some _=>.list k []
def Lj (k b:Nat):Option Nat->AV
 |none=>.dt []
 |some m=>.sl k b 0 m
def cellOf:Rt->List Nat
 |.c b j=>[yh b j]
 |_=>[]
def Ca:List Rt->List Nat
 |[]=>[]
 |p::r=>rootOf p++Ca r
def amO (s:St) (p:Rt):AV->Option AV
 |.int k n=>some (.int k n)
 |.dP k q off len=>if q=p then none else match az s q with
   |some (k',xs)=>if k'=k/\off+len<=xs.length/\im xs=true then some (.list k ((xs.drop off).take len)) else none
   |none=>none
 |_=>none
def isFn:AV->Bool
 |.func _ _ _=>true
 |_=>false
def ai7:List AV->Bool
 |[]=>false
 |x::r=>isFn x||ai7 r
def WX (s:St) (g:Nat->List AV->List AV->Option (List AV)) (x:AV) (es:List AV):Option (AV × St × Fq):=none
def rV (c:eI) (s:St):Kd->Option (Option (AV × St × Fq))
 |.call f (x::es)=>match c.inp f with
   |none=>match c.eat f with
     |none=>none
     |some g=>some (WX s g (bp c s.env x) (dC c s.env es))
   |some g=>some (match bp c s.env x with
     |.list k []=>if dq (dC c s.env es)=true then match g k [] (dC c s.env es) with
       |some (_,res)=>some (inpL k res,s,.wr [] (some []))
       |none=>none
       else none
     |.dP k p 0 len=>match az s p with
       |some (k',xs)=>if k'=k/\len<=xs.length/\dq (dC c s.env es)=true then
         match g k (xs.take len) (dC c s.env es) with
         |some (ys,res)=>some (inpV k p res,setAt s p (.own k (ys++xs.drop len)),.wr (rootOf p) (some (mW p)))
         |none=>none
         else none
       |none=>none
     |.sl k b 0 len=>match aJ s.H b with
       |some cs=>if k=1/\len<=cs.length/\E8 cs=true/\dq (dC c s.env es)=true then
         match g k (cs.take len) (dC c s.env es) with
         |some (ys,res)=>some (Lj k b res,⟨s.env,s.H.set b (some (aA ys++cs.drop len))⟩,.all)
         |none=>none
         else none
       |none=>none
     |_=>none)
 |_=>none
def locV (c:eI) (call:Nat->List AV->Heap->Option (AV × Heap)) (s:St) (f:Nat) (es:List AV):AV->Option (AV × St × Fq)
 |.ptr b 0=>match c.fn f,aJ s.H b with
   |some (md,_),some cs=>if md.sh=true/\dq es=true/\dq cs=true then match call f (.ptr 0 0::es) [some cs] with
     |some (r,[some cs'])=>if pl r=true/\dq cs'=true then some (r,⟨s.env,s.H.set b (some cs')⟩,.lw b) else none
     |_=>none
     else none
   |_,_=>none
 |_=>none
def po (c:eI) (call:Nat->List AV->Heap->Option (AV × Heap)) (s:St):Kd->Option (Option (AV × St × Fq))
 |.call f (x::es)=>if c.loc f=true then some (locV c call s f (dC c s.env es) (bp c s.env x)) else none
 |_=>none
def SM (c:eI) (call:Nat->List AV->Heap->Option (AV × Heap)) (f i:Nat) (s1:St) (xs:List AV):Option (AV × St × Fq):=
 match c.fn f,xs[i]? with
 |some (md,_),some (.dP k p 0 len)=>match az s1 p with
   |some (k',ys)=>if md.sh=false/\k'=k/\len=ys.length/\dq ((xs.map eK).set i .undef)=true then
     match call f ((xs.map eK).set i (.own k ys)) [] with
     |some (.own k2 zs,_)=>some (.own k2 zs,setAt (cB (sw p) s1) p .any,.all)
     |_=>none
     else none
   |none=>none
 |_,_=>none
def vc (c:eI) (call:Nat->List AV->Heap->Option (AV × Heap)) (s:St):Kd->Option (Option (AV × St × Fq))
 |.call f es=>match c.mov f with
   |some i=>some (SM c call f i (eE (dn ((dC c s.env es).set i .undef)) s) (dC c (eE (dn ((dC c s.env es).set i .undef)) s).env es))
   |none=>none
 |_=>none
def Vy:Nat->List AV->Option (Nat × Nat × Nat × Nat)
 |_,[]=>none
 |i,.sl k b off len::r=>if k=1 then some (i,b,off,len) else Vy (i+1) r
 |i,_::r=>Vy (i+1) r
def Fb (c:eI) (call:Nat->List AV->Heap->Option (AV × Heap)) (s:St) (kd:Kd):Option (AV × St × Fq):=none
def uF (c:eI) (call:Nat->List AV->Heap->Option (AV × Heap)) (kd:Kd) (s:St):Option (AV × St × Fq):=
 match eL c call kd s with
 |some x=>some x
 |none=>Fb c call s kd
def gG (c:eI) (call:Nat->List AV->Heap->Option (AV × Heap)) (kd:Kd) (s:St):Option (AV × St × Fq):=
 match vc c call s kd with
 |some r=>r
 |none=>uF c call kd s
def dF (c:eI) (call:Nat->List AV->Heap->Option (AV × Heap)) (kd:Kd) (s:St):Option (AV × St × Fq):=
 match rV c s kd with
 |some r=>r
 |none=>match po c call s kd with
   |some r=>r
   |none=>gG c call kd s
def ldOK (x v:AV):Bool:=match x with
 |.ptr _ _=>true
 |_=>(aS v).isEmpty
def zQ (x v:AV) (ps:List Rt):Fq:=match x,v with
 |.ptr b off,.dP _ (.c d j) _ _=>if d=b/\j=off then .rc b off else .rd ps
 |_,_=>.rd ps
def boxZ:List AV->Option (List AV)
 |[.own k []]=>if 1000<=k then some [.own (k-1000) []] else none
 |_=>none
def Us (p:Rt):AV->Fq
 |.dP _ q _ _=>if q=p then .wr (rootOf p) (some (mW p)) else .all
 |_=>.all
theorem Ac (p:Rt) (x:AV):Us p x=.all\/∃ k off len,x=.dP k p off len/\Us p x=.wr (rootOf p) (some (mW p)):=by
 unfold Us;split
 ·rename_i k q off len;split
  ·rename_i e;subst e;exact .inr ⟨_,_,_,rfl,rfl⟩
  ·exact .inl rfl
 ·exact .inl rfl
def fk (c:eI) (call:Nat->List AV->Heap->Option (AV × Heap)) (s:St):Kd->Option (AV × St × Fq)
 |.new zs=>some (.ptr s.H.length 0,⟨s.env,s.H++[some zs]⟩,.al s.H.length)
 |.box x=>if bC (bp c s.env x).cells then some (.ptr s.H.length 0,⟨s.env,s.H++[some (bp c s.env x).cells]⟩,.al s.H.length) else none
 |.dK k n zs ps=>
   let s1:=eE (ig c s.env ps) s
   match sE c s1.env (rep zs n) ps with
   |some cs=>if E8 (cs.map eK) then some (.own k (E7 k n (cs.map eK)),s1,if (ig c s.env ps).isEmpty then .no else o7 s (ig c s.env ps)) else none
   |none=>none
 |.P6 k zs l cp=>match bp c s.env l,bp c s.env cp with
   |.int _ l,.int _ cp=>if 0<=l/\l<=cp/\cp<=(lU:Int) then some (match boxZ zs with
     |some z=>(.sl k s.H.length 0 l.toNat,⟨s.env,s.H++[some (rep z l.toNat)]⟩,.al s.H.length)
     |none=>(.own k (List.replicate l.toNat (el (zs.map eK))),s,.no)) else none
   |_,_=>none
 |.ld ag x=>match CC s ag (bp c s.env x) with
   |some (v,ps)=>if ldOK (bp c s.env x) v then some (v,s,zQ (bp c s.env x) v ps) else none
   |none=>none
 |.st k a v=>match bp c s.env a with
   |.fv _ _ _ _=>
     let s1:=eE (aS (bp c s.env v)) s
     match UZ s1 k (bp c s1.env a) (bp c s1.env v) with
     |some (s',f)=>some (.undef,s',if (aS (bp c s.env v)).isEmpty then f else .all)
     |none=>none
   |a=>match UZ s k a (bp c s.env v) with
     |some (s',f)=>some (.undef,s',f)
     |none=>none
 |.clr _ _ x=>match bp c s.env x with
   |.own _ []=>some (.undef,s,.no)
   |.list _ []=>some (.undef,s,.no)
   |_=>none
 |.FA=>some (pQ s.H.length,⟨s.env,s.H++[some []]⟩,.al s.H.length)
 |.Bs kt ok z x k=>match mapOf (bp c s.env x) with
   |some b=>match aJ s.H b with
     |some es=>if dq es=true/\(pl (bp c s.env k)=true/\AW kt (bp c s.env k) (bp c s.env k)=some true) then
       match iQ kt (bp c s.env k) es 0 with
       |some r=>if pl z=true then some (mgv ok z r,s,.rd [.c b 1]) else none
       |none=>none
       else none
     |none=>none
   |none=>none
 |.CH kt x k v=>match mapOf (bp c s.env x) with
   |some b=>match aJ s.H b with
     |some es=>if dq es=true/\((pl (bp c s.env k)=true/\pl (bp c s.env v)=true)/\AW kt (bp c s.env k) (bp c s.env k)=some true) then
       match iQ kt (bp c s.env k) es 0 with
       |some r=>some (.undef,⟨s.env,s.H.set b (some (CJ (bp c s.env k) (bp c s.env v) es r))⟩,.all)
       |none=>none
       else none
     |none=>none
   |none=>none
 |.call f args=>dF c call (.call f args) s
 |.jC x args=>dF c call (.jC x args) s
 |.app k x y=>match cont s k (bp c s.env y) with
   |some ys=>if bC (aA ys)=true then match bp c s.env x with
     |.own _ []=>if ys.length<=lU then some (.own k ys,s,.rd (aS (bp c s.env y))) else none
     |.dP k' p 0 len=>match az s p with
       |some (AX,xs)=>if k'=k/\AX=k/\len<=xs.length/\len+ys.length<=lU then some (.own k (xs.take len++ys),setAt (cB (sw p) s) p .any,.wr (nN p s.env++marks (Ca (aS (bp c s.env y)))) (some (cellOf p++ui p 0 s.H))) else none
       |none=>none
     |_=>none
     else none
   |none=>none
 |.copy k x y=>match bp c s.env x with
   |.dP k' p off n=>if n=0 then (match cont s k (bp c s.env y) with
     |some ys=>if k'=k/\bC (aA ys)=true then some (.int .i64 0,s,.all) else none
     |none=>none) else match az s p,cont s k (bp c s.env y) with
     |some (AX,xs),some ys=>if k'=k/\AX=k/\off+n<=xs.length/\bC (aA ys)=true then some (.int .i64 (min ys.length n:Nat),setAt s p (.own k (j9 xs off (ys.take (min ys.length n)))),Us p (bp c s.env y)) else none
     |_,_=>none
   |_=>none
 |.Na n x hi=>match bp c s.env x with
   |.ptr b off=>match Da c s.env n n hi,aJ s.H b with
     |some m,some cs=>if off+n<=cs.length then some (.sl 1 b off m,s,.rd [.c b 1]) else none
     |_,_=>none
   |_=>match VZ c s.env (.Na n x hi) with
     |some v=>some (v,s,.no)
     |none=>none
 |kd=>match VZ c s.env kd with
   |some v=>some (v,s,.no)
   |none=>none

def cm (e:Env) (d:Option Nat) (fl:Fq):Fq:=
 match d with
 |none=>fl
 |some d=>if bV (get e d) then .sp else if (aS (get e d)).isEmpty then fl else match fl with
   |.no=>.bo []
   |.rd ps=>.bo ps
   |.rc b _=>.bo [.c b 0]
   |_=>.sp
def EK (e:Env) (d:Option Nat) (v:AV) (s:St) (fl:Fq):Option (St × Fq):=
 match BR s d v with
 |some s'=>some (s',cm e d fl)
 |none=>none
def uh (c:eI) (call:Nat->List AV->Heap->Option (AV × Heap)) (s:St) (o:O):Option (St × Fq):=
 match o.guard with
 |none=>match fk c call s o.kd with
   |some (v,s',fl)=>EK s.env o.dst v s' fl
   |none=>none
 |some (g,want)=>match get s.env g with
   |.bool b=>if b=want then
     match fk c call s o.kd with
     |some (v,s',fl)=>EK s.env o.dst v s' fl
     |none=>none
     else EK s.env o.dst .undef s .no
   |.undef=>EK s.env o.dst .undef s .no
   |_=>none
def oQ (c:eI) (call:Nat->List AV->Heap->Option (AV × Heap)):List O->St->Option (St × List Fq)
 |[],s=>some (s,[])
 |o::r,s=>match uh c call s o with
   |some (s',fl)=>match oQ c call r s' with
     |some (s'',rW)=>some (s'',fl::rW)
     |none=>none
   |none=>none

def still:Kd->Bool
 |.mv _|.pick _ _ _|.build _ _|.oS _|.bin _ _ _|.eq _ _ _ _|.un _ _|.Q5 _ _|.U0 _ _ _|.Fc _ _ _ _|.yf _ _|.fld _ _ _|.qc _ _ _|.Ic _ _ _ _|.ix _ _ _ _ _|.ext _ _|.ixs _ _|.len _|.min _|.max _=>true
 |.P6 _ zs _ _=>(boxZ zs).isNone
 |_=>false
def ij (n:Nat):List Rt->Bool
 |[]=>true
 |.c b _::r=>decide (b<n)&&ij n r
 |_::r=>ij n r
def iu (d:Nat):List Rt->Bool
 |[]=>true
 |.s i::r=>decide (i≠d)&&iu d r
 |.sc i _::r=>decide (i≠d)&&iu d r
 |.c _ _::r=>iu d r
def C4 (d:Option Nat):Fq->Bool
 |.rd ps=>match d with
   |some d=>iu d ps
   |none=>true
 |.bo ps=>match d with
   |some d=>iu d ps
   |none=>true
 |_=>true
def tA (b:Nat):List Rt->Bool
 |[]=>true
 |.c d _::r=>decide (d≠b)&&tA b r
 |_::r=>tA b r
def Fq.ok:Fq->Fq->Bool
 |.no,.no=>true
 |.no,.rd _=>true
 |.no,.al _=>true
 |.no,.wr _ _=>true
 |.rd _,.no=>true
 |.al _,.no=>true
 |.wr _ _,.no=>true
 |.rd _,.rd _=>true
 |.rd _,.wr _ _=>true
 |.wr _ _,.rd _=>true
 |.al n,.rd ps=>ij n ps
 |.rd ps,.al n=>ij n ps
 |.al n,.bo ps=>ij n ps
 |.bo ps,.al n=>ij n ps
 |.no,.bo _=>true
 |.bo _,.no=>true
 |.rd _,.bo _=>true
 |.bo _,.rd _=>true
 |.bo _,.bo _=>true
 |.no,.rc _ _=>true
 |.rc _ _,.no=>true
 |.rc _ _,.rd _=>true
 |.rd _,.rc _ _=>true
 |.rc _ _,.rc _ _=>true
 |.rc _ _,.bo _=>true
 |.bo _,.rc _ _=>true
 |.rc _ _,.wr _ _=>true
 |.wr _ _,.rc _ _=>true
 |.al n,.rc b _=>decide (b<n)
 |.rc b _,.al n=>decide (b<n)
 |.no,.lw _=>true
 |.lw _,.no=>true
 |.rd ps,.lw b=>tA b ps
 |.lw b,.rd ps=>tA b ps
 |.rc d _,.lw b=>decide (d≠b)
 |.lw b,.rc d _=>decide (d≠b)
 |.al n,.lw b=>decide (b<n)
 |.lw b,.al n=>decide (b<n)
 |_,_=>false
def KK (sl:List Nat):List Nat->Bool
 |[]=>true
 |i::r=>!mem i sl&&KK sl r
def rY (sl:List Nat) (bs:Option (List Nat)):List Rt->Bool
 |[]=>true
 |.s i::r=>(!mem i sl&&!mem (i+nK) sl)&&rY sl bs r
 |.sc i _::r=>(!mem i sl&&!mem (i+nK) sl)&&rY sl bs r
 |.c b j::r=>(match bs with
   |some bs=>!pD b bs&&(decide (j≠0)||!mem (b+nK) bs)
   |none=>false)&&rY sl bs r
def QL (bs:Option (List Nat)) (b j:Nat):Bool:=match bs with
 |some bs=>!mem b bs&&(!mem (b+nK) bs&&!mem (yh b j) bs)
 |none=>false
def Ni (f:Fq) (y:O) (g:Fq):Bool:=
 match f with
 |.wr sl bs=>KK sl y.reads&&(match y.dst with
   |some d=>!mem d sl&&!mem (d+nK) sl
   |none=>true)&&(match g with
   |.rd ps=>rY sl bs ps
   |.rc b j=>QL bs b j
   |_=>true)
 |_=>true
def jq (x:O) (f:Fq) (y:O) (g:Fq):Bool:=f.ok g&&(C4 x.dst g&&C4 y.dst f)&&(Ni f y g&&Ni g x f)
def Ec (os:List O) (rW:List Fq):List (Nat × Nat)->Bool
 |[]=>true
 |(i,j)::r=>(decide (i=j)||jq (os.getD i ⟨none,none,.min []⟩) (rW.getD i .all) (os.getD j ⟨none,none,.min []⟩) (rW.getD j .all))&&Ec os rW r

def qh:Fq->Bool
 |.no|.rc _ _|.rd _|.al _|.bo _|.wr _ _|.lw _=>true
 |_=>false
def Mp (un:List (Nat × Nat)):Nat->List Fq->Bool
 |_,[]=>true
 |k,f::r=>(qh f||lg k k un)&&Mp un (k+1) r
def OS (os:List O) (rW:List Fq) (un:List (Nat × Nat)):Bool:=Mp un 0 rW&&Ec os rW un

/-! Results -/
def resV (c:eI) (s:St):Rv->Option AV
 |.t i=>some (bp c s.env (.t i))
 |.c i ag=>match CC s ag (bp c s.env (.t i)) with
   |some (v,_)=>some v
   |none=>none
def sd (c:eI) (s:St):List Rv->Option (List AV)
 |[]=>some []
 |r::rs=>match resV c s r,sd c s rs with
   |some v,some vs=>some (v::vs)
   |_,_=>none
def K1 (base:Nat):Rt->Bool
 |.c b _=>decide (base<=b)
 |_=>true
def v7 (base:Nat):List Rt->Bool
 |[]=>true
 |p::r=>K1 base p&&(r.all fun q=>decide (q≠p))&&v7 base r
def Nq (s:St):AV->Option AV
 |.dP k p 0 len=>match az s p with
   |some (k',xs)=>if k'=k/\len<=xs.length then some (.own k (xs.take len)) else none
   |none=>none
 |.own k []=>some (.own k [])
 |x=>if pl x then some x else none
def Nr (s:St) (x:AV):Option AV:=Nq s x
def mM (base:Nat) (s:St) (v:AV):Option (AV × Heap):=
 match get s.env fw with
 |.any=>
   let s2:=eE (aS v) ⟨put s.env fw v,s.H⟩
   let r:=get s2.env fw
   if jR r then some (r,trim base [(0,r)] s2.H.length (gn qS s2.H)) else none
 |_=>none
def Mz:AV->AV
 |.dP _ _ _ _=>.any
 |.own _ _=>.any
 |x=>x
def vW (s:St):Nat->List Rt->List AV->Option (List AV × Heap)
 |_,_,[]=>some ([],[])
 |n,used,.dP k (.s i) 0 len::r=>match az s (.s i) with
   |some (k',xs)=>if k'=k/\len=xs.length/\zS (.s i) used=false then
     if len=0 then match vW s n used r with
      |some (ys,hs)=>some (.list k []::ys,hs)
      |none=>none
     else match vW s (n+1) (.s i::used) r with
      |some (ys,hs)=>some (.sl k n 0 len::ys,some (aA xs)::hs)
      |none=>none
     else none
   |none=>none
 |n,used,x::r=>if jR x=true then match vW s n used r with
   |some (ys,hs)=>some (x::ys,hs)
   |none=>none
   else none
def finX (base:Nat) (s:St) (v:AV):Option (AV × Heap):=
 match get s.env fw,v with
 |.any,.dt cs=>if eZ (cs.map Mz)=true then
   match vW s (trim base [(0,.dt (cs.map Mz))] s.H.length (gn qS s.H)).length [] cs with
   |some (ys,hs)=>some (.dt ys,trim base [(0,.dt (cs.map Mz))] s.H.length (gn qS s.H)++hs)
   |none=>none
   else none
 |_,_=>none
def bI (md:Md) (base:Nat) (s:St) (v:AV):Option (AV × Heap):=
 if md.sh then (if md.ow then finX base s v else mM base s v)
 else if md.ow then
  if v7 base (aS v) then match Nr s v with
   |some r=>some (r,[])
   |none=>none
  else none
 else match WS s v with
  |some r=>some (r,[])
  |none=>none
def MP (c:eI) (f:Nat) (args:List AV) (H:Heap):Option (AV × Heap):=
 match c.orc f with
 |some g=>g args H
 |none=>none
def o9 (c:eI) (run:Nat->C->St->Option (Ex × St)) (f:Nat) (args:List AV) (H:Heap):Option (AV × Heap):=
 match MP c f args H with
 |some x=>some x
 |none=>match c.fn f with
   |none=>none
   |some (md,fn)=>if args.length<=fn.n then
     match run H.length fn.body ⟨dH 0 args,H⟩ with
     |some (.ret,s)=>match sd c s fn.res with
       |some vs=>bI md H.length s (qq vs)
       |none=>none
     |some (.normal,s)=>match sd c s fn.res with
       |some vs=>bI md H.length s (qq vs)
       |none=>none
     |_=>none
     else none
def cW (c:eI):Nat->Nat->C->St->Option (Ex × St)
 |0,_,_,_=>none
 |n+1,base,cd,s=>match cd with
   |.skip=>some (.normal,s)
   |.ret=>some (.ret,s)
   |.exit id=>some (.exit id,s)
   |.pI os dr un keep=>match oQ c (o9 c (cW c n)) os s with
     |some (s',rW)=>if dr=false\/OS os rW un=true then (match WW base keep s' with
       |some s2=>some (.normal,s2)
       |none=>none) else none
     |none=>none
   |.seq a b=>match cW c n base a s with
     |some (.normal,s')=>cW c n base b s'
     |r=>r
   |.cond x a b=>match bp c s.env x with
     |.bool t=>if t then cW c n base a s else cW c n base b s
     |_=>none
   |.aJ id b=>match cW c n base b s with
     |some (.exit id',s')=>if id'=id then some (.normal,s') else some (.exit id',s')
     |r=>r
   |.loop b=>match cW c n base b s with
     |some (.normal,s')=>cW c n base (.loop b) s'
     |r=>r
def mj (c:eI) (n:Nat) (f:Nat) (args:List AV) (H:Heap):Option (AV × Heap):=o9 c (cW c n) f args H

/-! The code for the older machine: what is empty and owned is nil -/
def dnV:AV->AV
 |.own _ []=>.du
 |v=>v
def wZ:List AV->List AV
 |[]=>[]
 |x::r=>dnV x::wZ r
def ny:E->E
 |.k x=>.k (dnV x)
 |x=>x
def F1:List E->List E
 |[]=>[]
 |x::r=>ny x::F1 r
def dnO:Option E->Option E
 |some x=>some (ny x)
 |none=>none
def Un:List (Nat × Nat × E)->List (Nat × Nat × E)
 |[]=>[]
 |(i,j,x)::r=>(i,j,ny x)::Un r
def mV:Kd->Kd
 |.mv x=>.mv (ny x)
 |.pick c a b=>.pick (ny c) (ny a) (ny b)
 |.new zs=>.new (wZ zs)
 |.box x=>.box (ny x)
 |.build zs ps=>.build (wZ zs) (Un ps)
 |.dK k n zs ps=>.dK k n (wZ zs) (Un ps)
 |.ld ag x=>.ld ag (ny x)
 |.st k a v=>.st k (ny a) (ny v)
 |.oS x=>.oS (ny x)
 |.bin op x y=>.bin op (ny x) (ny y)
 |.eq ng t x y=>.eq ng t (ny x) (ny y)
 |.un op x=>.un op (ny x)
 |.Q5 k x=>.Q5 k (ny x)
 |.U0 fn a b=>.U0 fn (F1 a) (F1 b)
 |.P6 k zs l cp=>.P6 k (wZ zs) (ny l) (ny cp)
 |.Fc k x lo hi=>.Fc k (ny x) (dnO lo) (dnO hi)
 |.yf off x=>.yf off (ny x)
 |.Na n x hi=>.Na n (ny x) (dnO hi)
 |.fld off ag x=>.fld off ag (ny x)
 |.qc k x i=>.qc k (ny x) (ny i)
 |.Ic n k x i=>.Ic n k (ny x) (ny i)
 |.ix n k ag x i=>.ix n k ag (ny x) (ny i)
 |.ext i x=>.ext i (ny x)
 |.call f args=>.call f (F1 args)
 |.jC x args=>.jC (ny x) (F1 args)
 |.ixs tab i=>.ixs tab (ny i)
 |.clr k zs x=>.clr k (wZ zs) (ny x)
 |.len x=>.len (ny x)
 |.app k x y=>.app k (ny x) (ny y)
 |.min xs=>.min (F1 xs)
 |.max xs=>.max (F1 xs)
 |.copy k x y=>.copy k (ny x) (ny y)
 |.FA=>.FA
 |.Bs kt ok z x k=>.Bs kt ok z (ny x) (ny k)
 |.CH kt x k v=>.CH kt (ny x) (ny k) (ny v)
 |.bad=>.bad
def Uo (o:O):O:=⟨o.dst,o.guard,mV o.kd⟩
def kE:E->Bool
 |.k x=>(aS x).isEmpty
 |_=>true
def kEs:List E->Bool
 |[]=>true
 |x::r=>kE x&&kEs r
def kEo:Option E->Bool
 |some x=>kE x
 |none=>true
def kPs:List (Nat × Nat × E)->Bool
 |[]=>true
 |p::r=>kE p.2.2&&kPs r
def BT:Kd->Bool
 |.mv x|.box x|.ld _ x|.oS x|.un _ x|.Q5 _ x|.yf _ x|.fld _ _ x|.ext _ x|.len x|.ixs _ x|.clr _ _ x=>kE x
 |.pick c a b=>kE c&&(kE a&&kE b)
 |.new _=>true
 |.bad=>true
 |.FA=>true
 |.Bs _ _ _ x k=>kE x&&kE k
 |.CH _ x k v=>kE x&&(kE k&&kE v)
 |.build zs ps=>(dn zs).isEmpty&&kPs ps
 |.dK _ _ zs ps=>(dn zs).isEmpty&&kPs ps
 |.st _ x y|.bin _ x y|.eq _ _ x y|.P6 _ _ x y|.qc _ x y|.Ic _ _ x y|.ix _ _ _ x y|.app _ x y|.copy _ x y=>kE x&&kE y
 |.U0 _ a b=>kEs a&&kEs b
 |.Fc _ x lo hi=>kE x&&(kEo lo&&kEo hi)
 |.Na _ x hi=>kE x&&kEo hi
 |.call _ xs|.min xs|.max xs=>kEs xs
 |.jC x xs=>kE x&&kEs xs
def LV (un:List (Nat × Nat)) (i j:Nat) (x:O) (ys:List Nat) (q:O):Bool:=mem i ys||((!lg i i un&&!lg j j un)&&(jZ x q&&((still x.kd&&still q.kd)||lg i j un)))
def xc (un:List (Nat × Nat)) (j:Nat) (ys:List Nat) (q:O):Nat->List O->Bool
 |_,[]=>true
 |i,x::r=>LV un i j x ys q&&xc un j ys q (i+1) r
def pZ (un:List (Nat × Nat)) (EX:List (List Nat)) (seen:List O):List Oper->List O->Bool
 |y::r,q::s=>BT q.kd&&((direct y).all fun i=>decide (i<seen.length))&&xc un seen.length (Mo EX y) q 0 seen&&pZ un (EX++[Mo EX y]) (seen++[q]) r s
 |_,_=>true
def tK (P:Program) (N:Nat) (ops:Array Oper):List Oper->List O->Bool
 |[],[]=>true
 |o::r,q::s=>QD P N ops o (Uo q)&&tK P N ops r s
 |_,_=>false
def M8 (P:Program) (N:Nat):Code->C->Bool
 |.skip,.skip=>true
 |.ret,.ret=>true
 |.exit i,.exit j=>decide (i=j)
 |.region _ ops d,.pI os dr un _=>decide (d=dr)&&tK P N ops ops.toList os&&(!dr||pZ un [] [] ops.toList os)
 |.seq a b,.seq x y=>M8 P N a x&&M8 P N b y
 |.cond c a b,.cond c' x y=>cY c (ny c')&&M8 P N a x&&M8 P N b y
 |.block i b,.aJ j x=>decide (i=j)&&M8 P N b x
 |.loop b,.loop x=>M8 P N b x
 |.label _,.skip=>true
 |.scope b,.seq .skip x=>M8 P N b x
 |_,_=>false
def cI (P:Program) (fn:Func) (q:fW):Bool:=
 decide (fn.ntmps = q.n) && decide (fn.ntmps <= fw) && !(fn.name == "runtime.NumGoroutine") && H5 P fn.results.toList q.res && (match fn.body with
  |some c=>M8 P q.n c q.body
  |none=>false)
structure fj (P:Program) (c:eI):Prop where
 mixed:P.follows .mixedOrders=true
 fn:∀f m q,c.fn f=some (m,q)->∃fn,P.funcs[f]?=some fn/\cI P fn q=true
end Go.Bm
