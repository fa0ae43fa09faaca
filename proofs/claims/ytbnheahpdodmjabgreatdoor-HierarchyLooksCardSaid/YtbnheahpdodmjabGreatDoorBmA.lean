/- The machine by value: a slice that is owned is a value, too; others that refer to it borrow it from its place. -/
import Derived.Test.YtbnheahpdodmjabGreatDoorMa
set_option linter.unusedVariables false

open Bool renaming and_eq_true → ae, false_eq_true → bH
open Nat renaming beq → mU, eq_of_beq_eq_true → cJ
namespace Go.Bm
open Go.Am

structure Md where
 sh:Bool
 ow:Bool
 cl:Bool
 deriving Inhabited
structure eS where
 fn:Nat->Option (Md × fM)
 gl:Nat->List AV
 orc:Nat->Option (List AV->Heap->Option (AV × Heap))
 inp:Nat->Option (Nat->List AV->List AV->Option (List AV × Option Nat))
 eat:Nat->Option (Nat->List AV->List AV->Option (List AV)):=fun _=>none
 loc:Nat->Bool:=fun _=>false
 emp:Nat->Bool:=fun _=>false
 mov:Nat->Option Nat:=fun _=>none

def fJ:Nat:=1000000
def oD:Nat:=500000
def Wm:Nat:=1000000
def yJ (b j:Nat):Nat:=b+(j+1)*Wm
def RE (b x:Nat):Bool:=decide (Wm<=x)&&(decide (b<=x)&&decide ((x-b)%Wm=0))
def qe (b:Nat):List Nat->Bool
 |[]=>false
 |x::r=>decide (x=b)||(RE b x||qe b r)
def marks:List Nat->List Nat
 |[]=>[]
 |i::r=>(i+oD)::marks r

/-! Values -/
mutual
def cW (g:AV->AV):AV->AV
 |.dX k p off len=>g (.dX k p off len)
 |.fG k p i off=>g (.fG k p i off)
 |.agg cs=>.agg (dp g cs)
 |.dR cs=>.dR (dp g cs)
 |.func f a b=>.func f (dp g a) (dp g b)
 |.any=>.any|.undef=>.undef|.fY=>.fY|.gh=>.gh|.dC=>.dC
 |.int k n=>.int k n|.bool b=>.bool b|.str s=>.str s
 |.list k xs=>.list k xs|.dG cs=>.dG cs|.ptr b off=>.ptr b off|.sl k b off len=>.sl k b off len
 |.own k xs=>.own k xs
def dp (g:AV->AV):List AV->List AV
 |[]=>[]
 |x::r=>cW g x::dp g r
end
mutual
def aV:AV->List Rt
 |.dX _ p _ _=>[p]
 |.fG _ p _ _=>[p]
 |.agg cs=>dz cs
 |.dR cs=>dz cs
 |.func _ a b=>dz a++dz b
 |_=>[]
def dz:List AV->List Rt
 |[]=>[]
 |x::r=>aV x++dz r
end
mutual
def pl:AV->Bool
 |.own _ _|.dX _ _ _ _|.fG _ _ _ _|.ptr _ _|.sl _ _ _ _=>false
 |.agg cs=>dc cs
 |.dR cs=>dc cs
 |.func f a b=>!kB f&&(dc a&&dc b)
 |_=>true
def dc:List AV->Bool
 |[]=>true
 |x::r=>pl x&&dc r
end
def fz (x:AV):Bool:=x.leaf&&pl x
def FG:List AV->Bool
 |[]=>true
 |x::r=>fz x&&FG r
def bS:List AV->Bool
 |[]=>false
 |.own _ _::_=>true
 |_::r=>bS r
def bY:AV->Bool
 |.own _ _=>true
 |.agg cs=>bS cs
 |_=>false
mutual
def clean:AV->Bool
 |.list _ xs=>xs.isEmpty
 |.dG _|.any|.func _ _ _|.dX _ _ _ _|.fG _ _ _ _|.ptr _ _|.sl _ _ _ _=>false
 |.own _ xs=>iB xs
 |.agg cs=>iB cs
 |.dR cs=>iB cs
 |_=>true
def iB:List AV->Bool
 |[]=>true
 |x::r=>clean x&&iB r
end

/-! Places -/
def fj (f:Nat->Rt):Nat->List AV->List AV
 |_,[]=>[]
 |j,.own k xs::r=>.dX k (f j) 0 xs.length::fj f (j+1) r
 |j,x::r=>x::fj f (j+1) r
def fE (i:Nat):AV->AV
 |.own k xs=>.dX k (.s i) 0 xs.length
 |.agg cs=>.agg (fj (.sc i) 0 cs)
 |v=>v
def at_ (s:St):Rt->Option AV
 |.s i=>some (get s.env i)
 |.sc i j=>match get s.env i with
   |.agg cs=>cs[j]?
   |_=>none
 |.c b j=>match aH s.H b with
   |some cs=>cs[j]?
   |none=>none
def aB (s:St) (p:Rt):Option (Nat × List AV):=
 match at_ s p with
 |some (.own k xs)=>some (k,xs)
 |_=>none
def setAt (s:St) (p:Rt) (v:AV):St:=
 match p with
 |.s i=>⟨put s.env i v,s.H⟩
 |.sc i j=>match get s.env i with
   |.agg cs=>⟨put s.env i (.agg (cs.set j v)),s.H⟩
   |_=>s
 |.c b j=>match aH s.H b with
   |some cs=>⟨s.env,s.H.set b (some (cs.set j v))⟩
   |none=>s
def l8 (g:AV->AV):Env->Env
 |[]=>[]
 |(i,v)::r=>(i,cW g v)::l8 g r
def gK (g:AV->AV):Heap->Heap
 |[]=>[]
 |none::r=>none::gK g r
 |some cs::r=>some (dp g cs)::gK g r
def cB (g:AV->AV) (s:St):St:=⟨l8 g s.env,gK g s.H⟩

def sw (p:Rt):AV->AV
 |.dX k q off len=>if q=p then .any else .dX k q off len
 |.fG k q i off=>if q=p then .any else .fG k q i off
 |v=>v
def rt (p q:Rt) (n:Nat):AV->AV
 |.dX k r off len=>if r=p then (if off+len<=n then .dX k q off len else .any) else .dX k r off len
 |.fG k r i off=>if r=p then (if i<n then .fG k q i off else .any) else .fG k r i off
 |v=>v
def fb (p:Rt) (k:Nat) (xs:List AV):AV->AV
 |.dX k' q off len=>if q=p then (if k'=k/\off+len<=xs.length then .list k ((xs.drop off).take len) else .any) else .dX k' q off len
 |.fG k' q i off=>if q=p then (if k'=k then match xs[i]? with
   |some x=>.dG (x.cells.drop off)
   |none=>.any
   else .any) else .fG k' q i off
 |v=>v
def My (s:St) (p:Rt):St:=
 match aB s p with
 |some (k,xs)=>setAt (cB (fb p k xs) s) p (.list k xs)
 |none=>s
def eO:List Rt->St->St
 |[],s=>s
 |p::r,s=>eO r (My s p)

def V6 (p:Rt) (q:Rt):AV->Option Rt
 |.dX _ r _ _=>if r=p then some q else none
 |_=>none
def Sc (p:Rt) (f:Nat->Rt):Nat->List AV->Option Rt
 |_,[]=>none
 |j,x::r=>match V6 p (f j) x with
   |some y=>some y
   |none=>Sc p f (j+1) r
def borS (p:Rt) (i:Nat):AV->Option Rt
 |.agg cs=>Sc p (.sc i) 0 cs
 |v=>V6 p (.s i) v
def borE (p:Rt):Env->Option Rt
 |[]=>none
 |(i,v)::r=>match borS p i v with
   |some y=>some y
   |none=>borE p r
def borH (p:Rt):Nat->Heap->Option Rt
 |_,[]=>none
 |b,none::r=>borH p (b+1) r
 |b,some cs::r=>match Sc p (.c b) 0 cs with
   |some y=>some y
   |none=>borH p (b+1) r
def VI (p:Rt) (s:St):Option Rt:=
 match borS p fJ (get s.env fJ) with
 |some y=>some y
 |none=>match borE p s.env with
   |some y=>some y
   |none=>borH p 0 s.H
def rel (s:St) (p:Rt):St:=
 match aB s p with
 |none=>s
 |some (k,xs)=>match VI p s with
   |none=>setAt (cB (sw p) s) p .any
   |some q=>match at_ s q with
     |some (.dX _ r 0 len)=>if r=p then setAt (setAt (cB (rt p q len) s) p .any) q (.own k (xs.take len)) else My s p
     |_=>My s p
def NL (i:Nat):Nat->List AV->St->St
 |_,[],s=>s
 |j,.own _ _::r,s=>NL i (j+1) r (rel s (.sc i j))
 |j,_::r,s=>NL i (j+1) r s
def Fo (s:St) (i:Nat):St:=
 match get s.env i with
 |.own _ _=>rel s (.s i)
 |.agg cs=>NL i 0 cs s
 |_=>s
def qI (keep:List Nat):Env->St->St
 |[],s=>s
 |(i,_)::r,s=>qI keep r (if mem i keep then s else Fo s i)
def vo (keep:List Nat):Env->Bool
 |[]=>false
 |(i,v)::r=>(!mem i keep&&bY v)||vo keep r

def kz (i d:Nat):Rt->Rt
 |.s j=>if j=i then .s d else .s j
 |.sc j l=>if j=i then .sc d l else .sc j l
 |.c b j=>.c b j
def mvB (i d:Nat):AV->AV
 |.dX k p off len=>.dX k (kz i d p) off len
 |.fG k p l off=>.fG k (kz i d p) l off
 |v=>v
def RS (s:St) (d:Nat):St:=
 let s1:=cB (mvB fJ d) s
 ⟨put (put s1.env fJ .any) d (get s1.env fJ),s1.H⟩
def AH (f:Rt->Bool):List Rt->Bool
 |[]=>false
 |p::r=>f p||AH f r
def Ng (f:Rt->Bool):Env->Bool
 |[]=>false
 |(_,v)::r=>AH f (aV v)||Ng f r
def Nd (f:Rt->Bool):Heap->Bool
 |[]=>false
 |none::r=>Nd f r
 |some cs::r=>AH f (dz cs)||Nd f r
def Nh (f:Rt->Bool) (s:St) (v:AV):Bool:=AH f (aV v)||(Ng f s.env||Nd f s.H)
def bP (d:Nat):Rt->Bool
 |.s i=>decide (i=d)
 |.sc i _=>decide (i=d)
 |.c _ _=>false
def dq (b off k:Nat):Rt->Bool
 |.c c j=>decide (c=b)&&(decide (off<=j)&&decide (j<off+k))
 |_=>false
def S0 (s:St) (d:Nat) (v:AV):Bool:=bY (get s.env d)&&Nh (bP d) s v
def putB (s:St) (d:Nat) (v:AV):Option St:=
 if S0 s d v then
  match get s.env fJ with
  |.any=>if bY (get (Fo ⟨put s.env fJ v,s.H⟩ d).env d) then none else some (RS (Fo ⟨put s.env fJ v,s.H⟩ d) d)
  |_=>none
 else some ⟨put s.env d v,s.H⟩
def B5 (s:St) (d:Option Nat) (v:AV):Option St:=
 match d with
 |some d=>putB s d v
 |none=>some s

/-! Boxes that nobody refers to -/
mutual
def vf (b:Nat):AV->Bool
 |.ptr c _=>decide (c≠b)
 |.sl _ c _ _=>decide (c≠b)
 |.dX _ (.c d _) _ _=>decide (d≠b)
 |.fG _ (.c d _) _ _=>decide (d≠b)
 |.agg cs=>lH b cs
 |.dR cs=>lH b cs
 |.func _ x y=>lH b x&&lH b y
 |_=>true
def lH (b:Nat):List AV->Bool
 |[]=>true
 |x::r=>vf b x&&lH b r
end
def F4 (b:Nat):Env->Bool
 |[]=>true
 |(_,v)::r=>vf b v&&F4 b r
def Ac (b:Nat):Heap->Bool
 |[]=>true
 |none::r=>Ac b r
 |some cs::r=>lH b cs&&Ac b r
def trim (base:Nat) (env:Env):Nat->Heap->Heap
 |0,H=>H
 |n+1,H=>if base<=n/\H.length=n+1/\F4 n env=true/\Ac n (H.take n)=true then trim base env n (H.take n) else H
def endK (base:Nat) (keep:List Nat) (s:St):St:=⟨uy keep s.env,trim base (uy keep s.env) s.H.length s.H⟩
def Yp (base:Nat) (keep:List Nat) (s:St):Option St:=
 if vo keep s.env then
  if vo keep (qI keep s.env s).env then none else some (endK base keep (qI keep s.env s))
 else some (endK base keep s)

/-! Operations -/
def bq (c:eS) (env:Env):E->AV
 |.t i=>fE i (get env i)
 |.k x=>x
 |.g i=>.dG (c.gl i)
def dK (c:eS) (env:Env):List E->List AV
 |[]=>[]
 |x::r=>bq c env x::dK c env r
def cont (s:St) (k:Nat):AV->Option (List AV)
 |.list k' xs=>if k'=k then some xs else none
 |.own _ []=>some []
 |.dX k' p off len=>match aB s p with
   |some (Bj,xs)=>if k'=k/\Bj=k/\off+len<=xs.length then some ((xs.drop off).take len) else none
   |none=>none
 |_=>none
def Ym:AV->Option AV
 |.own k xs=>some (.list k xs)
 |x=>if fz x then some x else none
def Ca:List AV->Option (List AV)
 |[]=>some []
 |x::r=>match Ym x,Ca r with
   |some y,some ys=>some (y::ys)
   |_,_=>none
def VC (s:St) (k b off len:Nat):Option AV:=
 match aH s.H b with
 |some cs=>if k=1/\off+len<=cs.length then match Ca ((cs.drop off).take len) with
   |some ys=>some (.list 1 ys)
   |none=>none
   else none
 |none=>none
mutual
def nf (sh:Bool) (s:St):AV->Option AV
 |.dX k p off len=>match aB s p with
   |some (k',xs)=>if k'=k/\off+len<=xs.length then some (.list k ((xs.drop off).take len)) else none
   |none=>none
 |.own _ _=>none
 |.agg cs=>match Gz sh s cs with
   |some ds=>some (.agg ds)
   |none=>none
 |.dR cs=>match Gz sh s cs with
   |some ds=>some (.dR ds)
   |none=>none
 |.func f a b=>match Gz sh s a,Gz sh s b with
   |some a',some b'=>some (.func f a' b')
   |_,_=>none
 |.ptr b off=>if sh then some (.ptr b off) else none
 |.fG _ _ _ _=>none
 |.sl _ _ _ _=>none
 |.any=>none
 |x=>some x
def Gz (sh:Bool) (s:St):List AV->Option (List AV)
 |[]=>some []
 |x::r=>match nf sh s x,Gz sh s r with
   |some y,some ys=>some (y::ys)
   |_,_=>none
end
mutual
def Yl (s:St):AV->Option AV
 |.sl k b off len=>VC s k b off len
 |.dR cs=>match P7 s cs with
   |some ds=>some (.dR ds)
   |none=>none
 |x=>nf false s x
def P7 (s:St):List AV->Option (List AV)
 |[]=>some []
 |x::r=>match Yl s x,P7 s r with
   |some y,some ys=>some (y::ys)
   |_,_=>none
end
def fa:AV->AV
 |.own k []=>.list k []
 |v=>v
def xG (s:St):List AV->Option (List AV)
 |[]=>some []
 |.own k []::r=>match xG s r with
   |some ys=>some (.list k []::ys)
   |none=>none
 |.sl k b off len::r=>match VC s k b off len,xG s r with
   |some y,some ys=>some (y::ys)
   |_,_=>none
 |x::r=>match nf false s x,xG s r with
   |some y,some ys=>some (y::ys)
   |_,_=>none
def Jm:List AV->List Rt
 |[]=>[]
 |.sl _ b _ _::r=>.c b 1::Jm r
 |_::r=>Jm r
mutual
def fW:AV->Bool
 |.own _ _|.dX _ _ _ _|.fG _ _ _ _=>false
 |.agg cs=>dm cs
 |.dR cs=>dm cs
 |.func _ a b=>dm a&&dm b
 |_=>true
def dm:List AV->Bool
 |[]=>true
 |x::r=>fW x&&dm r
end
def xq:AV->Option Nat
 |.dC=>some 0
 |.own _ []=>some 0
 |.list _ xs=>some xs.length
 |.dX _ _ _ len=>some len
 |.sl _ _ _ len=>some len
 |_=>none
def DM (c:eS) (env:Env) (dflt hi:Nat):Option E->Option Nat
 |none=>some dflt
 |some x=>bnd (bq c env x) hi
def tc (c:eS) (env:Env):List AV->List (Nat × Nat × E)->Option (List AV)
 |zs,[]=>some zs
 |zs,(off,sz,x)::r=>
   if (bq c env x).cells.length=sz/\off+sz<=zs.length/\bF (bq c env x).cells=true then tc c env (kj zs off (bq c env x).cells) r else none
def iM:Et->AV->Option Bool
 |.Xs,.dC=>some true
 |.Xs,.dX _ _ _ len=>if len=0 then none else some false
 |.Xs,.list _ (_::_)=>some false
 |.Xs,.sl _ _ _ _=>some false
 |.Lx,.fY=>some true
 |.Lx,.ptr _ _=>some false
 |.Lx,.dG _=>some false
 |.nfn,.gh=>some true
 |.nfn,.func f _ _=>if kB f then none else some false
 |_,_=>none
def eqB:Et->AV->AV->Option Bool
 |.bool,.bool a,.bool b=>some (a == b)
 |.str l,.agg xs,.agg ys=>Bz l xs ys
 |.Xs,x,.own _ []=>iM .Xs x
 |.Xs,x,.dC=>iM .Xs x
 |.Lx,x,.fY=>iM .Lx x
 |.nfn,x,.gh=>iM .nfn x
 |_,_,_=>none
def QY (ag:Option Nat) (cs:List AV):Option AV:=
 match FO ag cs with
 |some v=>if bY v then none else some v
 |none=>none
def Xm (c:eS) (env:Env):Kd->Option AV
 |.mv x=>some (bq c env x)
 |.pick t a b=>match bq c env t with
   |.bool t=>some (if t then bq c env a else bq c env b)
   |_=>none
 |.build zs ps=>match tc c env zs ps with
   |some cs=>some (.agg cs)
   |none=>none
 |.pD x=>match bq c env x with
   |.ptr b off=>some (.ptr b off)
   |.dG cs=>some (.dG cs)
   |.func (.func f) a b=>some (.func (.func f) a b)
   |_=>none
 |.bin op x y=>tq op (bq c env x) (bq c env y)
 |.eq ng t x y=>match eqB t (bq c env x) (bq c env y) with
   |some e=>some (.bool (if ng then !e else e))
   |none=>none
 |.un op x=>WM op (bq c env x)
 |.SH k x=>match bq c env x with
   |.int _ n=>some (.int k (k.wrap n))
   |_=>none
 |.Sy fn a b=>if kB fn||bS (dK c env a++dK c env b) then none else some (.func fn (dK c env a) (dK c env b))
 |.Io k x lo hi=>match xq (bq c env x) with
   |some n=>match DM c env n n hi with
     |some h=>match DM c env 0 h lo with
       |some l=>match bq c env x with
         |.own k' xs=>if k'=k then some (.own k xs) else none
         |.list k' xs=>if k'=k then some (.list k ((xs.take h).drop l)) else none
         |.dX k' p off _=>if k'=k then some (.dX k p (off+l) (h-l)) else none
         |.sl k' b off _=>if k'=k then some (.sl k b (off+l*k) (h-l)) else none
         |_=>none
       |none=>none
     |none=>none
   |none=>none
 |.vL off x=>match bq c env x with
   |.ptr b o=>some (.ptr b (o+off))
   |.dG cs=>some (.dG (cs.drop off))
   |.fG k p i o=>some (.fG k p i (o+off))
   |_=>none
 |.Of n x hi=>match hi with
   |none=>match bq c env x with
     |.dG cs=>if n<=cs.length/\bF (cs.take n)=true then some (.list 1 (cs.take n)) else none
     |_=>none
   |some _=>none
 |.fld off ag x=>match bq c env x with
   |.agg cs=>QY ag (cs.drop off)
   |_=>none
 |.ti k x i=>match bq c env x with
   |.list k' xs=>match idx (bq c env i) xs.length with
     |some j=>if k'=k then match xs[j]? with
       |some v=>some (.dG v.cells)
       |none=>none
       else none
     |none=>none
   |.dX k' p off len=>match idx (bq c env i) len with
     |some j=>if k'=k then some (.fG k p (off+j) 0) else none
     |none=>none
   |.sl k' b off len=>match idx (bq c env i) len with
     |some j=>if k'=k then some (.ptr b (off+j*k)) else none
     |none=>none
   |_=>none
 |.wC n k x i=>match idx (bq c env i) n with
   |some j=>match bq c env x with
     |.ptr b off=>some (.ptr b (off+j*k))
     |.dG cs=>some (.dG (cs.drop (j*k)))
     |.fG k' p l off=>some (.fG k' p l (off+j*k))
     |_=>none
   |none=>none
 |.ix n k ag x i=>match idx (bq c env i) n with
   |some j=>match bq c env x with
     |.agg cs=>QY ag (cs.drop (j*k))
     |_=>none
   |none=>none
 |.ixs tab i=>match idx (bq c env i) tab.length with
   |some j=>match tab[j]? with
     |some v=>some (.int .u8 v)
     |none=>none
   |none=>none
 |.ext i x=>match bq c env x with
   |.dR vs=>match vs[i]? with
     |some v=>if bY v then none else some v
     |none=>none
   |_=>none
 |.len x=>match xq (bq c env x) with
   |some n=>some (.int .i64 n)
   |none=>none
 |.min xs=>BO false (dK c env xs)
 |.max xs=>BO true (dK c env xs)
 |_=>none

def iy (c:eS) (env:Env):List (Nat × Nat × E)->List Rt
 |[]=>[]
 |(_,_,x)::r=>aV (bq c env x)++iy c env r
inductive Fq where
 |no|rc (b j:Nat)|rd (ps:List Rt)|al (n:Nat)|wr (sl:List Nat) (bs:Option (List Nat))|all|sp|bo (ps:List Rt)|lw (b:Nat)
 deriving Inhabited
def Ao (p:Rt):List Rt->Bool
 |[]=>false
 |q::r=>decide (q=p)||Ao p r
def isRoot (p:Rt) (i:Nat):Bool:=
 match p with
 |.s j=>decide (j=i)
 |.sc j _=>decide (j=i)
 |.c _ _=>false
def oF (p:Rt):Env->List Nat
 |[]=>[]
 |(i,v)::r=>if Ao p (aV v)||isRoot p i then i::oF p r else oF p r
def u5 (p:Rt):Nat->Heap->List Nat
 |_,[]=>[]
 |b,none::r=>u5 p (b+1) r
 |b,some cs::r=>if Ao p (dz cs) then b::u5 p (b+1) r else u5 p (b+1) r
def de:List Rt->Bool
 |[]=>false
 |.c _ _::_=>true
 |_::r=>de r
def dn:Env->List Nat
 |[]=>[]
 |(i,v)::r=>if de (aV v) then i::dn r else dn r
def SR (k:Nat) (x:AV) (off:Nat) (vs:List AV):AV:=if off=0/\vs.length=k then el vs else el (kj x.cells off vs)
def Da (s:St) (ag:Option Nat):AV->Option (AV × List Rt)
 |.dG cs=>match QY ag cs with
   |some v=>some (v,[])
   |none=>none
 |.ptr b off=>match aH s.H b with
   |some cs=>match QY ag ((fj (.c b) 0 cs).drop off) with
     |some v=>some (v,[.c b (if (aV v).isEmpty then 1 else 0)])
     |none=>none
   |none=>none
 |.fG k p i off=>match aB s p with
   |some (k',xs)=>if k'=k then match xs[i]? with
     |some x=>match QY ag (x.cells.drop off) with
       |some v=>some (v,[p])
       |none=>none
     |none=>none
     else none
   |none=>none
 |_=>none
def D8 (b:Nat):Nat->Nat->St->St
 |_,0,s=>s
 |j,n+1,s=>D8 b (j+1) n (match aB s (.c b j) with
   |some _=>rel s (.c b j)
   |none=>s)
def jj (i b off:Nat):Rt->Rt
 |.s j=>if j=i then .c b off else .s j
 |.sc j l=>if j=i then .c b (off+l) else .sc j l
 |.c d j=>.c d j
def jU (i b off:Nat):AV->AV
 |.dX k p o len=>.dX k (jj i b off p) o len
 |.fG k p l o=>.fG k (jj i b off p) l o
 |v=>v
def xD (s:St) (b off k:Nat):Option St:=
 match aH (cB (jU fJ b off) s).H b with
 |some cs=>if (get (cB (jU fJ b off) s).env fJ).cells.length=k/\off+k<=cs.length/\bS ((cs.drop off).take k)=false/\bF (get (cB (jU fJ b off) s).env fJ).cells=true then
   some ⟨put (cB (jU fJ b off) s).env fJ .any,(cB (jU fJ b off) s).H.set b (some (kj cs off (get (cB (jU fJ b off) s).env fJ).cells))⟩
   else none
 |none=>none
def BZ (s:St) (b off k:Nat) (v:AV):Option (St × Fq):=
 match aH s.H b with
 |some cs=>if v.cells.length=k/\off+k<=cs.length/\bF v.cells=true then
   if bS ((cs.drop off).take k)&&Nh (dq b off k) s v then
    match get s.env fJ with
    |.any=>match xD (D8 b off k ⟨put s.env fJ v,s.H⟩) b off k with
      |some s'=>some (s',.all)
      |none=>none
    |_=>none
   else some (⟨s.env,s.H.set b (some (kj cs off v.cells))⟩,.wr [] (some [b]))
   else none
 |none=>none
def rootOf:Rt->List Nat
 |.s i=>[i]
 |.sc i _=>[i]
 |.c _ _=>[]
def nn:Rt->List Nat
 |.c b _=>[b]
 |_=>[]
def abY:Rt->List Nat
 |.c b _=>[yJ b 99999]
 |_=>[]
def Wo (s:St) (k:Nat) (a v:AV):Option (St × Fq):=
 match a with
 |.ptr b off=>BZ s b off k v
 |.fG k' p i off=>match aB s p with
   |some (Bj,xs)=>if Bj=k' then match xs[i]? with
     |some x=>if v.cells.length=k/\off+k<=k'/\FG v.cells=true then some (setAt s p (.own k' (xs.set i (SR k' x off v.cells))),.wr (marks (rootOf p)) (some (abY p))) else none
     |none=>none
     else none
   |none=>none
 |_=>none

def jD:AV->AV
 |.dX _ (.c _ _) _ _=>.any
 |.fG _ (.c _ _) _ _=>.any
 |x=>x
def cN:Rt->Bool
 |.c _ _=>false
 |_=>true
def fx:Heap->Bool
 |[]=>true
 |none::_=>false
 |some cs::r=>!AH cN (dz cs)&&fx r
def jC:AV->AV
 |.dX k (.c b j) off len=>.dX k (.c b j) off len
 |.fG k (.c b j) i off=>.fG k (.c b j) i off
 |.dX _ _ _ _=>.any
 |.fG _ _ _ _=>.any
 |x=>x
def fnE:Fn->Fn->Bool
 |.func f,y=>match y with|.func g=>mU f g|_=>false
 |_,_=>false
mutual
def ke:AV->AV->Bool
 |.any,y=>match y with|.any=>true|_=>false
 |.undef,y=>match y with|.undef=>true|_=>false
 |.fY,y=>match y with|.fY=>true|_=>false
 |.gh,y=>match y with|.gh=>true|_=>false
 |.dC,y=>match y with|.dC=>true|_=>false
 |.int k n,y=>match y with|.int k' n'=>decide (k=k')&&decide (n=n')|_=>false
 |.bool b,y=>match y with|.bool b'=>b == b'|_=>false
 |.str _,_=>false
 |.agg x,y=>match y with|.agg x'=>fI x x'|_=>false
 |.dR x,y=>match y with|.dR x'=>fI x x'|_=>false
 |.list k x,y=>match y with|.list k' x'=>mU k k'&&fI x x'|_=>false
 |.dG x,y=>match y with|.dG x'=>fI x x'|_=>false
 |.ptr b o,y=>match y with|.ptr b' o'=>mU b b'&&mU o o'|_=>false
 |.sl k b o l,y=>match y with|.sl k' b' o' l'=>(mU k k'&&mU b b')&&(mU o o'&&mU l l')|_=>false
 |.func f a b,y=>match y with|.func f' a' b'=>fnE f f'&&(fI a a'&&fI b b')|_=>false
 |.own k x,y=>match y with|.own k' x'=>mU k k'&&fI x x'|_=>false
 |.dX k p o l,y=>match y with|.dX k' p' o' l'=>(mU k k'&&decide (p=p'))&&(mU o o'&&mU l l')|_=>false
 |.fG k p i o,y=>match y with|.fG k' p' i' o'=>(mU k k'&&decide (p=p'))&&(mU i i'&&mU o o')|_=>false
def fI:List AV->List AV->Bool
 |[],y=>match y with|[]=>true|_=>false
 |a::r,y=>match y with|b::s=>ke a b&&fI r s|_=>false
end
theorem amO:∀{f g:Fn},fnE f g=true->f=g:=by
 intro f g h;cases f<;>cases g<;>simp only[fnE,bH] at h
 rw[cJ h]
mutual
theorem am7:∀(a b:AV),ke a b=true->a=b
 |.any,b,h=>by cases b<;>first|rfl|(simp[ke] at h; done)
 |.undef,b,h=>by cases b<;>first|rfl|(simp[ke] at h; done)
 |.fY,b,h=>by cases b<;>first|rfl|(simp[ke] at h; done)
 |.gh,b,h=>by cases b<;>first|rfl|(simp[ke] at h; done)
 |.dC,b,h=>by cases b<;>first|rfl|(simp[ke] at h; done)
 |.int k n,b,h=>by
   cases b<;>first|(simp[ke] at h; done)|skip
   simp only[ke,ae,decide_eq_true_eq] at h;rw[h.1,h.2]
 |.bool x,b,h=>by
   cases b<;>first|(simp[ke] at h; done)|skip
   simp only[ke,beq_iff_eq] at h;rw[h]
 |.str _,b,h=>by simp[ke] at h
 |.agg x,b,h=>by
   cases b<;>first|(simp[ke] at h; done)|skip
   simp only[ke] at h;rw[tr _ _ h]
 |.dR x,b,h=>by
   cases b<;>first|(simp[ke] at h; done)|skip
   simp only[ke] at h;rw[tr _ _ h]
 |.dG x,b,h=>by
   cases b<;>first|(simp[ke] at h; done)|skip
   simp only[ke] at h;rw[tr _ _ h]
 |.list k x,b,h=>by
   cases b<;>first|(simp[ke] at h; done)|skip
   simp only[ke,ae] at h;rw[cJ h.1,tr _ _ h.2]
 |.own k x,b,h=>by
   cases b<;>first|(simp[ke] at h; done)|skip
   simp only[ke,ae] at h;rw[cJ h.1,tr _ _ h.2]
 |.ptr k x,b,h=>by
   cases b<;>first|(simp[ke] at h; done)|skip
   simp only[ke,ae] at h;rw[cJ h.1,cJ h.2]
 |.sl k x y z,b,h=>by
   cases b<;>first|(simp[ke] at h; done)|skip
   simp only[ke,ae] at h;rw[cJ h.1.1,cJ h.1.2,cJ h.2.1,cJ h.2.2]
 |.func f x y,b,h=>by
   cases b<;>first|(simp[ke] at h; done)|skip
   simp only[ke,ae] at h;rw[amO h.1,tr _ _ h.2.1,tr _ _ h.2.2]
 |.dX k x y z,b,h=>by
   cases b<;>first|(simp[ke] at h; done)|skip
   simp only[ke,ae,decide_eq_true_eq] at h;rw[cJ h.1.1,h.1.2,cJ h.2.1,cJ h.2.2]
 |.fG k x y z,b,h=>by
   cases b<;>first|(simp[ke] at h; done)|skip
   simp only[ke,ae,decide_eq_true_eq] at h;rw[cJ h.1.1,h.1.2,cJ h.2.1,cJ h.2.2]
theorem tr:∀(x y:List AV),fI x y=true->x=y
 |[],y,h=>by cases y<;>first|rfl|(simp[fI] at h; done)
 |a::r,y,h=>by
   cases y with
   |nil=>simp[fI] at h
   |cons b s=>
     simp only[fI,ae] at h;rw[am7 _ _ h.1,tr _ _ h.2]
end
def iC:Wy->Wy->Bool
 |none,y=>match y with|none=>true|some _=>false
 |some x,y=>match y with|some x'=>fI x x'|none=>false
theorem ajF {x y:Wy} (h:iC x y=true):x=y:=by
 cases x<;>cases y<;>simp only[iC,bH] at h
 ·rfl
 ·rw[tr _ _ h]
mutual
def iH:AV->List Nat
 |.ptr b _=>[b]
 |.sl _ b _ _=>[b]
 |.agg cs=>dJ cs
 |.dR cs=>dJ cs
 |.func _ a b=>dJ a++dJ b
 |_=>[]
def dJ:List AV->List Nat
 |[]=>[]
 |x::r=>iH x++dJ r
end
def eX:Wy->Bool
 |some cs=>!bS cs&&(dz cs).isEmpty
 |none=>false
def bX (l:List Nat):Nat->Heap->Heap->Option (List Nat)
 |_,[],[]=>some []
 |b,x::H,y::H'=>match bX l (b+1) H H' with
   |some r=>if mem b l then some r else if iC x y then some (if eX x then r else (b+oD)::r) else none
   |none=>none
 |_,_,_=>none
def dB (l:List Nat):Option (List Nat)->Option (List Nat)
 |some r=>some (l++r)
 |none=>none
mutual
def lS:AV->AV
 |.dX k p off n=>if n=0 then .list k [] else .dX k p off n
 |.agg cs=>.agg (ER cs)
 |v=>v
def ER:List AV->List AV
 |[]=>[]
 |x::r=>lS x::ER r
end
def rB (c:eS) (env:Env):Kd->Option (Nat × List AV)
 |.call f args=>some (f,dK c env args)
 |.jM x args=>match bq c env x with
   |.func (.func f) a b=>if bS a||bS b then none else some (f,a++dK c env args++b)
   |_=>none
 |_=>none
def getArgs (c:eS) (env:Env) (kd:Kd):Option (Nat × List AV):=
 match rB c env kd with
 |some (f,args)=>some (f,if c.emp f=true then ER args else args)
 |none=>none
def TY (r:AV):Bool:=clean r&&(match r with
 |.own _ _=>true
 |r=>!bY r)
def pP (s:St):List Rt->Fq
 |[p]=>match aB s p with
   |some _=>.wr (oF p s.env) (some (nn p++u5 p 0 s.H))
   |none=>.all
 |_=>.all
def eT (c:eS) (call:Nat->List AV->Heap->Option (AV × Heap)) (kd:Kd) (s:St):Option (AV × St × Fq):=
 match getArgs c s.env kd with
 |none=>none
 |some (f,args)=>match c.fn f with
   |none=>none
   |some (md,_)=>
     if md.cl&&!md.sh then
      match xG s args with
      |none=>none
      |some vu=>match call f vu [] with
        |some (r,_)=>if TY r then some (r,s,if (dz args++Jm args).isEmpty then .no else .rd (dz args++Jm args)) else none
        |none=>none
     else match getArgs c (eO (dz args) s).env kd with
      |none=>none
      | some (f1, rE) => if f1 = f then
           if md.sh then
            if dm (rE.map fa)&&fx (eO (dz args) s).H then match call f (rE.map fa) (eO (dz args) s).H with
              |some (r,H')=>if ((aV r).isEmpty&&!bY r)&&fx H' then some (r,⟨l8 jD (eO (dz args) s).env,H'⟩,if (dz args).isEmpty then .wr (dn s.env) (dB (dJ rE) (bX (dJ rE) 0 (eO (dz args) s).H H')) else .all) else none
              |none=>none
            else none
           else if dc (rE.map fa) then match call f (rE.map fa) [] with
            |some (r,_)=>if pl r then some (r,eO (dz args) s,if (dz args).isEmpty then .no else pP s (dz args)) else none
            |none=>none
           else none
        else none

def inpV (k:Nat) (p:Rt):Option Nat->AV
 |none=>.dR []
 |some m=>.dX k p 0 m
def inpL (k:Nat):Option Nat->AV
 |none=>.dR []
 |some _=>.list k []
def Mh (k b:Nat):Option Nat->AV
 |none=>.dR []
 |some m=>.sl k b 0 m
def cellOf:Rt->List Nat
 |.c b j=>[yJ b j]
 |_=>[]
def Cm:List Rt->List Nat
 |[]=>[]
 |p::r=>rootOf p++Cm r
def an5 (s:St) (p:Rt):AV->Option AV
 |.int k n=>some (.int k n)
 |.dX k q off len=>if q=p then none else match aB s q with
   |some (k',xs)=>if k'=k/\off+len<=xs.length/\iB xs=true then some (.list k ((xs.drop off).take len)) else none
   |none=>none
 |_=>none
def isFn:AV->Bool
 |.func _ _ _=>true
 |_=>false
def akN:List AV->Bool
 |[]=>false
 |x::r=>isFn x||akN r
def Yq (s:St) (g:Nat->List AV->List AV->Option (List AV)) (x:AV) (es:List AV):Option (AV × St × Fq):=none
def sO (c:eS) (s:St):Kd->Option (Option (AV × St × Fq))
 |.call f (x::es)=>match c.inp f with
   |none=>match c.eat f with
     |none=>none
     |some g=>some (Yq s g (bq c s.env x) (dK c s.env es))
   |some g=>some (match bq c s.env x with
     |.list k []=>if dc (dK c s.env es)=true then match g k [] (dK c s.env es) with
       |some (_,res)=>some (inpL k res,s,.wr [] (some []))
       |none=>none
       else none
     |.dX k p 0 len=>match aB s p with
       |some (k',xs)=>if k'=k/\len<=xs.length/\dc (dK c s.env es)=true then
         match g k (xs.take len) (dK c s.env es) with
         |some (ys,res)=>some (inpV k p res,setAt s p (.own k (ys++xs.drop len)),.wr (rootOf p) (some (nn p)))
         |none=>none
         else none
       |none=>none
     |.sl k b 0 len=>match aH s.H b with
       |some cs=>if k=1/\len<=cs.length/\FG cs=true/\dc (dK c s.env es)=true then
         match g k (cs.take len) (dK c s.env es) with
         |some (ys,res)=>some (Mh k b res,⟨s.env,s.H.set b (some (aC ys++cs.drop len))⟩,.all)
         |none=>none
         else none
       |none=>none
     |_=>none)
 |_=>none
def locV (c:eS) (call:Nat->List AV->Heap->Option (AV × Heap)) (s:St) (f:Nat) (es:List AV):AV->Option (AV × St × Fq)
 |.ptr b 0=>match c.fn f,aH s.H b with
   |some (md,_),some cs=>if md.sh=true/\dc es=true/\dc cs=true then match call f (.ptr 0 0::es) [some cs] with
     |some (r,[some cs'])=>if pl r=true/\dc cs'=true then some (r,⟨s.env,s.H.set b (some cs')⟩,.lw b) else none
     |_=>none
     else none
   |_,_=>none
 |_=>none
def p7 (c:eS) (call:Nat->List AV->Heap->Option (AV × Heap)) (s:St):Kd->Option (Option (AV × St × Fq))
 |.call f (x::es)=>if c.loc f=true then some (locV c call s f (dK c s.env es) (bq c s.env x)) else none
 |_=>none
def Uk (c:eS) (call:Nat->List AV->Heap->Option (AV × Heap)) (f i:Nat) (s1:St) (xs:List AV):Option (AV × St × Fq):=
 match c.fn f,xs[i]? with
 |some (md,_),some (.dX k p 0 len)=>match aB s1 p with
   |some (k',ys)=>if md.sh=false/\k'=k/\len=ys.length/\dc ((xs.map fa).set i .undef)=true then
     match call f ((xs.map fa).set i (.own k ys)) [] with
     |some (.own k2 zs,_)=>some (.own k2 zs,setAt (cB (sw p) s1) p .any,.all)
     |_=>none
     else none
   |none=>none
 |_,_=>none
def vE (c:eS) (call:Nat->List AV->Heap->Option (AV × Heap)) (s:St):Kd->Option (Option (AV × St × Fq))
 |.call f es=>match c.mov f with
   |some i=>some (Uk c call f i (eO (dz ((dK c s.env es).set i .undef)) s) (dK c (eO (dz ((dK c s.env es).set i .undef)) s).env es))
   |none=>none
 |_=>none
def gn:Nat->List AV->Option (Nat × Nat × Nat × Nat)
 |_,[]=>none
 |i,.sl k b off len::r=>if k=1 then some (i,b,off,len) else gn (i+1) r
 |i,_::r=>gn (i+1) r
def FI (c:eS) (call:Nat->List AV->Heap->Option (AV × Heap)) (s:St) (kd:Kd):Option (AV × St × Fq):=none
def vt (c:eS) (call:Nat->List AV->Heap->Option (AV × Heap)) (kd:Kd) (s:St):Option (AV × St × Fq):=
 match eT c call kd s with
 |some x=>some x
 |none=>FI c call s kd
def gP (c:eS) (call:Nat->List AV->Heap->Option (AV × Heap)) (kd:Kd) (s:St):Option (AV × St × Fq):=
 match vE c call s kd with
 |some r=>r
 |none=>vt c call kd s
def dN (c:eS) (call:Nat->List AV->Heap->Option (AV × Heap)) (kd:Kd) (s:St):Option (AV × St × Fq):=
 match sO c s kd with
 |some r=>r
 |none=>match p7 c call s kd with
   |some r=>r
   |none=>gP c call kd s
def ldOK (x v:AV):Bool:=match x with
 |.ptr _ _=>true
 |_=>(aV v).isEmpty
def Al (x v:AV) (ps:List Rt):Fq:=match x,v with
 |.ptr b off,.dX _ (.c d j) _ _=>if d=b/\j=off then .rc b off else .rd ps
 |_,_=>.rd ps
def boxZ:List AV->Option (List AV)
 |[.own k []]=>if 1000<=k then some [.own (k-1000) []] else none
 |_=>none
def VT (p:Rt):AV->Fq
 |.dX _ q _ _=>if q=p then .wr (rootOf p) (some (nn p)) else .all
 |_=>.all
theorem AA (p:Rt) (x:AV):VT p x=.all\/∃ k off len,x=.dX k p off len/\VT p x=.wr (rootOf p) (some (nn p)):=by
 unfold VT;split
 ·rename_i k q off len;split
  ·rename_i e;subst e;exact .inr ⟨_,_,_,rfl,rfl⟩
  ·exact .inl rfl
 ·exact .inl rfl
def fD (c:eS) (call:Nat->List AV->Heap->Option (AV × Heap)) (s:St):Kd->Option (AV × St × Fq)
 |.new zs=>some (.ptr s.H.length 0,⟨s.env,s.H++[some zs]⟩,.al s.H.length)
 |.box x=>if bF (bq c s.env x).cells then some (.ptr s.H.length 0,⟨s.env,s.H++[some (bq c s.env x).cells]⟩,.al s.H.length) else none
 |.dw k n zs ps=>
   let s1:=eO (iy c s.env ps) s
   match tc c s1.env (rep zs n) ps with
   |some cs=>if FG (cs.map fa) then some (.own k (Iw k n (cs.map fa)),s1,if (iy c s.env ps).isEmpty then .no else pP s (iy c s.env ps)) else none
   |none=>none
 |.Rr k zs l cp=>match bq c s.env l,bq c s.env cp with
   |.int _ l,.int _ cp=>if 0<=l/\l<=cp/\cp<=(ks:Int) then some (match boxZ zs with
     |some z=>(.sl k s.H.length 0 l.toNat,⟨s.env,s.H++[some (rep z l.toNat)]⟩,.al s.H.length)
     |none=>(.own k (List.replicate l.toNat (el (zs.map fa))),s,.no)) else none
   |_,_=>none
 |.ld ag x=>match Da s ag (bq c s.env x) with
   |some (v,ps)=>if ldOK (bq c s.env x) v then some (v,s,Al (bq c s.env x) v ps) else none
   |none=>none
 |.st k a v=>match bq c s.env a with
   |.fG _ _ _ _=>
     let s1:=eO (aV (bq c s.env v)) s
     match Wo s1 k (bq c s1.env a) (bq c s1.env v) with
     |some (s',f)=>some (.undef,s',if (aV (bq c s.env v)).isEmpty then f else .all)
     |none=>none
   |a=>match Wo s k a (bq c s.env v) with
     |some (s',f)=>some (.undef,s',f)
     |none=>none
 |.Rg _ _ x=>match bq c s.env x with
   |.own _ []=>some (.undef,s,.no)
   |.list _ []=>some (.undef,s,.no)
   |_=>none
 |.Ga=>some (qp s.H.length,⟨s.env,s.H++[some []]⟩,.al s.H.length)
 |.BP kt ok z x k=>match mapOf (bq c s.env x) with
   |some b=>match aH s.H b with
     |some es=>if dc es=true/\(pl (bq c s.env k)=true/\Bi kt (bq c s.env k) (bq c s.env k)=some true) then
       match iY kt (bq c s.env k) es 0 with
       |some r=>if pl z=true then some (mgv ok z r,s,.rd [.c b 1]) else none
       |none=>none
       else none
     |none=>none
   |none=>none
 |.Df kt x k v=>match mapOf (bq c s.env x) with
   |some b=>match aH s.H b with
     |some es=>if dc es=true/\((pl (bq c s.env k)=true/\pl (bq c s.env v)=true)/\Bi kt (bq c s.env k) (bq c s.env k)=some true) then
       match iY kt (bq c s.env k) es 0 with
       |some r=>some (.undef,⟨s.env,s.H.set b (some (Dh (bq c s.env k) (bq c s.env v) es r))⟩,.all)
       |none=>none
       else none
     |none=>none
   |none=>none
 |.call f args=>dN c call (.call f args) s
 |.jM x args=>dN c call (.jM x args) s
 |.app k x y=>match cont s k (bq c s.env y) with
   |some ys=>if bF (aC ys)=true then match bq c s.env x with
     |.own _ []=>if ys.length<=ks then some (.own k ys,s,.rd (aV (bq c s.env y))) else none
     |.dX k' p 0 len=>match aB s p with
       |some (Bj,xs)=>if k'=k/\Bj=k/\len<=xs.length/\len+ys.length<=ks then some (.own k (xs.take len++ys),setAt (cB (sw p) s) p .any,.wr (oF p s.env++marks (Cm (aV (bq c s.env y)))) (some (cellOf p++u5 p 0 s.H))) else none
       |none=>none
     |_=>none
     else none
   |none=>none
 |.copy k x y=>match bq c s.env x with
   |.dX k' p off n=>if n=0 then (match cont s k (bq c s.env y) with
     |some ys=>if k'=k/\bF (aC ys)=true then some (.int .i64 0,s,.all) else none
     |none=>none) else match aB s p,cont s k (bq c s.env y) with
     |some (Bj,xs),some ys=>if k'=k/\Bj=k/\off+n<=xs.length/\bF (aC ys)=true then some (.int .i64 (min ys.length n:Nat),setAt s p (.own k (kj xs off (ys.take (min ys.length n)))),VT p (bq c s.env y)) else none
     |_,_=>none
   |_=>none
 |.Of n x hi=>match bq c s.env x with
   |.ptr b off=>match DM c s.env n n hi,aH s.H b with
     |some m,some cs=>if off+n<=cs.length then some (.sl 1 b off m,s,.rd [.c b 1]) else none
     |_,_=>none
   |_=>match Xm c s.env (.Of n x hi) with
     |some v=>some (v,s,.no)
     |none=>none
 |kd=>match Xm c s.env kd with
   |some v=>some (v,s,.no)
   |none=>none

def ct (e:Env) (d:Option Nat) (fl:Fq):Fq:=
 match d with
 |none=>fl
 |some d=>if bY (get e d) then .sp else if (aV (get e d)).isEmpty then fl else match fl with
   |.no=>.bo []
   |.rd ps=>.bo ps
   |.rc b _=>.bo [.c b 0]
   |_=>.sp
def Fk (e:Env) (d:Option Nat) (v:AV) (s:St) (fl:Fq):Option (St × Fq):=
 match B5 s d v with
 |some s'=>some (s',ct e d fl)
 |none=>none
def u4 (c:eS) (call:Nat->List AV->Heap->Option (AV × Heap)) (s:St) (o:O):Option (St × Fq):=
 match o.guard with
 |none=>match fD c call s o.kd with
   |some (v,s',fl)=>Fk s.env o.dst v s' fl
   |none=>none
 |some (g,want)=>match get s.env g with
   |.bool b=>if b=want then
     match fD c call s o.kd with
     |some (v,s',fl)=>Fk s.env o.dst v s' fl
     |none=>none
     else Fk s.env o.dst .undef s .no
   |.undef=>Fk s.env o.dst .undef s .no
   |_=>none
def pz (c:eS) (call:Nat->List AV->Heap->Option (AV × Heap)):List O->St->Option (St × List Fq)
 |[],s=>some (s,[])
 |o::r,s=>match u4 c call s o with
   |some (s',fl)=>match pz c call r s' with
     |some (s'',sP)=>some (s'',fl::sP)
     |none=>none
   |none=>none

def still:Kd->Bool
 |.mv _|.pick _ _ _|.build _ _|.pD _|.bin _ _ _|.eq _ _ _ _|.un _ _|.SH _ _|.Sy _ _ _|.Io _ _ _ _|.vL _ _|.fld _ _ _|.ti _ _ _|.wC _ _ _ _|.ix _ _ _ _ _|.ext _ _|.ixs _ _|.len _|.min _|.max _=>true
 |.Rr _ zs _ _=>(boxZ zs).isNone
 |_=>false
def iz (n:Nat):List Rt->Bool
 |[]=>true
 |.c b _::r=>decide (b<n)&&iz n r
 |_::r=>iz n r
def iE (d:Nat):List Rt->Bool
 |[]=>true
 |.s i::r=>decide (i≠d)&&iE d r
 |.sc i _::r=>decide (i≠d)&&iE d r
 |.c _ _::r=>iE d r
def DF (d:Option Nat):Fq->Bool
 |.rd ps=>match d with
   |some d=>iE d ps
   |none=>true
 |.bo ps=>match d with
   |some d=>iE d ps
   |none=>true
 |_=>true
def uu (b:Nat):List Rt->Bool
 |[]=>true
 |.c d _::r=>decide (d≠b)&&uu b r
 |_::r=>uu b r
def Fq.ok:Fq->Fq->Bool
 |.no,.no=>true
 |.no,.rd _=>true
 |.no,.al _=>true
 |.no,.wr _ _=>true
 |.rd _,.no=>true
 |.al _,.no=>true
 |.wr _ _,.no=>true
 |.rd _,.rd _=>true
 |.rd _,.wr _ _=>true
 |.wr _ _,.rd _=>true
 |.al n,.rd ps=>iz n ps
 |.rd ps,.al n=>iz n ps
 |.al n,.bo ps=>iz n ps
 |.bo ps,.al n=>iz n ps
 |.no,.bo _=>true
 |.bo _,.no=>true
 |.rd _,.bo _=>true
 |.bo _,.rd _=>true
 |.bo _,.bo _=>true
 |.no,.rc _ _=>true
 |.rc _ _,.no=>true
 |.rc _ _,.rd _=>true
 |.rd _,.rc _ _=>true
 |.rc _ _,.rc _ _=>true
 |.rc _ _,.bo _=>true
 |.bo _,.rc _ _=>true
 |.rc _ _,.wr _ _=>true
 |.wr _ _,.rc _ _=>true
 |.al n,.rc b _=>decide (b<n)
 |.rc b _,.al n=>decide (b<n)
 |.no,.lw _=>true
 |.lw _,.no=>true
 |.rd ps,.lw b=>uu b ps
 |.lw b,.rd ps=>uu b ps
 |.rc d _,.lw b=>decide (d≠b)
 |.lw b,.rc d _=>decide (d≠b)
 |.al n,.lw b=>decide (b<n)
 |.lw b,.al n=>decide (b<n)
 |_,_=>false
def LB (sl:List Nat):List Nat->Bool
 |[]=>true
 |i::r=>!mem i sl&&LB sl r
def sQ (sl:List Nat) (bs:Option (List Nat)):List Rt->Bool
 |[]=>true
 |.s i::r=>(!mem i sl&&!mem (i+oD) sl)&&sQ sl bs r
 |.sc i _::r=>(!mem i sl&&!mem (i+oD) sl)&&sQ sl bs r
 |.c b j::r=>(match bs with
   |some bs=>!qe b bs&&(decide (j≠0)||!mem (b+oD) bs)
   |none=>false)&&sQ sl bs r
def Sg (bs:Option (List Nat)) (b j:Nat):Bool:=match bs with
 |some bs=>!mem b bs&&(!mem (b+oD) bs&&!mem (yJ b j) bs)
 |none=>false
def Ol (f:Fq) (y:O) (g:Fq):Bool:=
 match f with
 |.wr sl bs=>LB sl y.reads&&(match y.dst with
   |some d=>!mem d sl&&!mem (d+oD) sl
   |none=>true)&&(match g with
   |.rd ps=>sQ sl bs ps
   |.rc b j=>Sg bs b j
   |_=>true)
 |_=>true
def jx (x:O) (f:Fq) (y:O) (g:Fq):Bool:=f.ok g&&(DF x.dst g&&DF y.dst f)&&(Ol f y g&&Ol g x f)
def EM (os:List O) (sP:List Fq):List (Nat × Nat)->Bool
 |[]=>true
 |(i,j)::r=>(decide (i=j)||jx (os.getD i ⟨none,none,.min []⟩) (sP.getD i .all) (os.getD j ⟨none,none,.min []⟩) (sP.getD j .all))&&EM os sP r

def qJ:Fq->Bool
 |.no|.rc _ _|.rd _|.al _|.bo _|.wr _ _|.lw _=>true
 |_=>false
def Nj (un:List (Nat × Nat)):Nat->List Fq->Bool
 |_,[]=>true
 |k,f::r=>(qJ f||lG k k un)&&Nj un (k+1) r
def Qg (os:List O) (sP:List Fq) (un:List (Nat × Nat)):Bool:=Nj un 0 sP&&EM os sP un

/-! Results -/
def resV (c:eS) (s:St):Rv->Option AV
 |.t i=>some (bq c s.env (.t i))
 |.c i ag=>match Da s ag (bq c s.env (.t i)) with
   |some (v,_)=>some v
   |none=>none
def sU (c:eS) (s:St):List Rv->Option (List AV)
 |[]=>some []
 |r::rs=>match resV c s r,sU c s rs with
   |some v,some vs=>some (v::vs)
   |_,_=>none
def LU (base:Nat):Rt->Bool
 |.c b _=>decide (base<=b)
 |_=>true
def wN (base:Nat):List Rt->Bool
 |[]=>true
 |p::r=>LU base p&&(r.all fun q=>decide (q≠p))&&wN base r
def Ov (s:St):AV->Option AV
 |.dX k p 0 len=>match aB s p with
   |some (k',xs)=>if k'=k/\len<=xs.length then some (.own k (xs.take len)) else none
   |none=>none
 |.own k []=>some (.own k [])
 |x=>if pl x then some x else none
def Ow (s:St) (x:AV):Option AV:=Ov s x
def eR (base:Nat) (s:St) (v:AV):Option (AV × Heap):=
 match get s.env fJ with
 |.any=>
   let s2:=eO (aV v) ⟨put s.env fJ v,s.H⟩
   let r:=get s2.env fJ
   if fW r then some (r,trim base [(0,r)] s2.H.length (gK jC s2.H)) else none
 |_=>none
def Nw:AV->AV
 |.dX _ _ _ _=>.any
 |.own _ _=>.any
 |x=>x
def wJ (s:St):Nat->List Rt->List AV->Option (List AV × Heap)
 |_,_,[]=>some ([],[])
 |n,used,.dX k (.s i) 0 len::r=>match aB s (.s i) with
   |some (k',xs)=>if k'=k/\len=xs.length/\Ao (.s i) used=false then
     if len=0 then match wJ s n used r with
      |some (ys,hs)=>some (.list k []::ys,hs)
      |none=>none
     else match wJ s (n+1) (.s i::used) r with
      |some (ys,hs)=>some (.sl k n 0 len::ys,some (aC xs)::hs)
      |none=>none
     else none
   |none=>none
 |n,used,x::r=>if fW x=true then match wJ s n used r with
   |some (ys,hs)=>some (x::ys,hs)
   |none=>none
   else none
def finX (base:Nat) (s:St) (v:AV):Option (AV × Heap):=
 match get s.env fJ,v with
 |.any,.dR cs=>if dm (cs.map Nw)=true then
   match wJ s (trim base [(0,.dR (cs.map Nw))] s.H.length (gK jC s.H)).length [] cs with
   |some (ys,hs)=>some (.dR ys,trim base [(0,.dR (cs.map Nw))] s.H.length (gK jC s.H)++hs)
   |none=>none
   else none
 |_,_=>none
def bC (md:Md) (base:Nat) (s:St) (v:AV):Option (AV × Heap):=
 if md.sh then (if md.ow then finX base s v else eR base s v)
 else if md.ow then
  if wN base (aV v) then match Ow s v with
   |some r=>some (r,[])
   |none=>none
  else none
 else match Yl s v with
  |some r=>some (r,[])
  |none=>none
def NO (c:eS) (f:Nat) (args:List AV) (H:Heap):Option (AV × Heap):=
 match c.orc f with
 |some g=>g args H
 |none=>none
def pR (c:eS) (run:Nat->C->St->Option (Ex × St)) (f:Nat) (args:List AV) (H:Heap):Option (AV × Heap):=
 match NO c f args H with
 |some x=>some x
 |none=>match c.fn f with
   |none=>none
   |some (md,fn)=>if args.length<=fn.n then
     match run H.length fn.body ⟨dP 0 args,H⟩ with
     |some (.ret,s)=>match sU c s fn.res with
       |some vs=>bC md H.length s (qQ vs)
       |none=>none
     |some (.normal,s)=>match sU c s fn.res with
       |some vs=>bC md H.length s (qQ vs)
       |none=>none
     |_=>none
     else none
def df (c:eS):Nat->Nat->C->St->Option (Ex × St)
 |0,_,_,_=>none
 |n+1,base,cd,s=>match cd with
   |.skip=>some (.normal,s)
   |.ret=>some (.ret,s)
   |.exit id=>some (.exit id,s)
   |.qT os dr un keep=>match pz c (pR c (df c n)) os s with
     |some (s',sP)=>if dr=false\/Qg os sP un=true then (match Yp base keep s' with
       |some s2=>some (.normal,s2)
       |none=>none) else none
     |none=>none
   |.seq a b=>match df c n base a s with
     |some (.normal,s')=>df c n base b s'
     |r=>r
   |.cond x a b=>match bq c s.env x with
     |.bool t=>if t then df c n base a s else df c n base b s
     |_=>none
   |.aH id b=>match df c n base b s with
     |some (.exit id',s')=>if id'=id then some (.normal,s') else some (.exit id',s')
     |r=>r
   |.loop b=>match df c n base b s with
     |some (.normal,s')=>df c n base (.loop b) s'
     |r=>r
def mz (c:eS) (n:Nat) (f:Nat) (args:List AV) (H:Heap):Option (AV × Heap):=pR c (df c n) f args H

/-! The code for the older machine: what is empty and owned is nil -/
def dnV:AV->AV
 |.own _ []=>.dC
 |v=>v
def xH:List AV->List AV
 |[]=>[]
 |x::r=>dnV x::xH r
def nI:E->E
 |.k x=>.k (dnV x)
 |x=>x
def GB:List E->List E
 |[]=>[]
 |x::r=>nI x::GB r
def dnO:Option E->Option E
 |some x=>some (nI x)
 |none=>none
def VP:List (Nat × Nat × E)->List (Nat × Nat × E)
 |[]=>[]
 |(i,j,x)::r=>(i,j,nI x)::VP r
def nj:Kd->Kd
 |.mv x=>.mv (nI x)
 |.pick c a b=>.pick (nI c) (nI a) (nI b)
 |.new zs=>.new (xH zs)
 |.box x=>.box (nI x)
 |.build zs ps=>.build (xH zs) (VP ps)
 |.dw k n zs ps=>.dw k n (xH zs) (VP ps)
 |.ld ag x=>.ld ag (nI x)
 |.st k a v=>.st k (nI a) (nI v)
 |.pD x=>.pD (nI x)
 |.bin op x y=>.bin op (nI x) (nI y)
 |.eq ng t x y=>.eq ng t (nI x) (nI y)
 |.un op x=>.un op (nI x)
 |.SH k x=>.SH k (nI x)
 |.Sy fn a b=>.Sy fn (GB a) (GB b)
 |.Rr k zs l cp=>.Rr k (xH zs) (nI l) (nI cp)
 |.Io k x lo hi=>.Io k (nI x) (dnO lo) (dnO hi)
 |.vL off x=>.vL off (nI x)
 |.Of n x hi=>.Of n (nI x) (dnO hi)
 |.fld off ag x=>.fld off ag (nI x)
 |.ti k x i=>.ti k (nI x) (nI i)
 |.wC n k x i=>.wC n k (nI x) (nI i)
 |.ix n k ag x i=>.ix n k ag (nI x) (nI i)
 |.ext i x=>.ext i (nI x)
 |.call f args=>.call f (GB args)
 |.jM x args=>.jM (nI x) (GB args)
 |.ixs tab i=>.ixs tab (nI i)
 |.Rg k zs x=>.Rg k (xH zs) (nI x)
 |.len x=>.len (nI x)
 |.app k x y=>.app k (nI x) (nI y)
 |.min xs=>.min (GB xs)
 |.max xs=>.max (GB xs)
 |.copy k x y=>.copy k (nI x) (nI y)
 |.Ga=>.Ga
 |.BP kt ok z x k=>.BP kt ok z (nI x) (nI k)
 |.Df kt x k v=>.Df kt (nI x) (nI k) (nI v)
 |.bad=>.bad
def VQ (o:O):O:=⟨o.dst,o.guard,nj o.kd⟩
def kE:E->Bool
 |.k x=>(aV x).isEmpty
 |_=>true
def kEs:List E->Bool
 |[]=>true
 |x::r=>kE x&&kEs r
def kEo:Option E->Bool
 |some x=>kE x
 |none=>true
def kPs:List (Nat × Nat × E)->Bool
 |[]=>true
 |p::r=>kE p.2.2&&kPs r
def B7:Kd->Bool
 |.mv x|.box x|.ld _ x|.pD x|.un _ x|.SH _ x|.vL _ x|.fld _ _ x|.ext _ x|.len x|.ixs _ x|.Rg _ _ x=>kE x
 |.pick c a b=>kE c&&(kE a&&kE b)
 |.new _=>true
 |.bad=>true
 |.Ga=>true
 |.BP _ _ _ x k=>kE x&&kE k
 |.Df _ x k v=>kE x&&(kE k&&kE v)
 |.build zs ps=>(dz zs).isEmpty&&kPs ps
 |.dw _ _ zs ps=>(dz zs).isEmpty&&kPs ps
 |.st _ x y|.bin _ x y|.eq _ _ x y|.Rr _ _ x y|.ti _ x y|.wC _ _ x y|.ix _ _ _ x y|.app _ x y|.copy _ x y=>kE x&&kE y
 |.Sy _ a b=>kEs a&&kEs b
 |.Io _ x lo hi=>kE x&&(kEo lo&&kEo hi)
 |.Of _ x hi=>kE x&&kEo hi
 |.call _ xs|.min xs|.max xs=>kEs xs
 |.jM x xs=>kE x&&kEs xs
def MQ (un:List (Nat × Nat)) (i j:Nat) (x:O) (ys:List Nat) (q:O):Bool:=mem i ys||((!lG i i un&&!lG j j un)&&(kh x q&&((still x.kd&&still q.kd)||lG i j un)))
def xJ (un:List (Nat × Nat)) (j:Nat) (ys:List Nat) (q:O):Nat->List O->Bool
 |_,[]=>true
 |i,x::r=>MQ un i j x ys q&&xJ un j ys q (i+1) r
def qy (un:List (Nat × Nat)) (Fz:List (List Nat)) (seen:List O):List Oper->List O->Bool
 |y::r,q::s=>B7 q.kd&&((direct y).all fun i=>decide (i<seen.length))&&xJ un seen.length (Ni Fz y) q 0 seen&&qy un (Fz++[Ni Fz y]) (seen++[q]) r s
 |_,_=>true
def uG (P:Program) (N:Nat) (ops:Array Oper):List Oper->List O->Bool
 |[],[]=>true
 |o::r,q::s=>R8 P N ops o (VQ q)&&uG P N ops r s
 |_,_=>false
def Ob (P:Program) (N:Nat):Code->C->Bool
 |.skip,.skip=>true
 |.ret,.ret=>true
 |.exit i,.exit j=>decide (i=j)
 |.region _ ops d,.qT os dr un _=>decide (d=dr)&&uG P N ops ops.toList os&&(!dr||qy un [] [] ops.toList os)
 |.seq a b,.seq x y=>Ob P N a x&&Ob P N b y
 |.cond c a b,.cond c' x y=>dj c (nI c')&&Ob P N a x&&Ob P N b y
 |.block i b,.aH j x=>decide (i=j)&&Ob P N b x
 |.loop b,.loop x=>Ob P N b x
 |.label _,.skip=>true
 |.scope b,.seq .skip x=>Ob P N b x
 |_,_=>false
def cC (P:Program) (fn:Func) (q:fM):Bool:=
 decide (fn.ntmps = q.n) && decide (fn.ntmps <= fJ) && !(fn.name == "runtime.NumGoroutine") && Ii P fn.results.toList q.res && (match fn.body with
  |some c=>Ob P q.n c q.body
  |none=>false)
structure fy (P:Program) (c:eS):Prop where
 mixed:P.follows .mixedOrders=true
 fn:∀f m q,c.fn f=some (m,q)->∃fn,P.funcs[f]?=some fn/\cC P fn q=true
end Go.Bm
