/- An abstract machine, and its soundness against the model. -/
import Derived.WalkKit
import Derived.Laws.StructEq
import Derived.Laws.MakeOwn
import Derived.Laws.Concat
import Derived.MapKept
import Derived.WideKeyRuns
import Derived.Scope
set_option linter.unusedVariables false
/- The abstract machine: values by value, a small heap of own blocks, and an interpreter with fuel for the compact code. -/
open Array renaming getD_eq_getD_getElem? → bh, getElem?_append_left → sP, getElem?_eq_getElem → kc, getElem?_eq_some_iff → fk, getElem?_map → rW, getElem?_push → zc, getElem?_toList → eL, length_toList → qX, map → DN, mem_toList_iff → Py, range → yE, size_append → W5, toArray_toList → yD, toList_inj → gg
open Bool renaming and_eq_true → ae, false_eq_true → bp, not_eq_true' → bt, true_eq → CK
open ForInStep renaming yield → RB
open List renaming all_eq_true → sO, append_assoc → du, eq_nil_of_length_eq_zero → dI, ext_getElem? → dy, getElem?_append_left → az, getElem?_append_right → aN, getElem?_cons_succ → mS, getElem?_cons_zero → LJ, getElem?_drop → aW, getElem?_map → cJ, getElem?_of_mem → bz, getElem?_set → aX, getElem?_set_ne → fX, getElem?_take → bE, getElem?_take_of_lt → aQ, getElem?_toArray → xz, length_append → bC, length_cons → cY, length_drop → dT, length_take → bj, map_cons → eB, mem_append → aD, mem_cons → aO, mem_cons_of_mem → dm, mem_of_getElem? → bf, size_toArray → s9
open Nat renaming add_mul → ct, add_zero → DM, le_refl → aI, le_trans → Po, lt_of_lt_of_le → fQ, mul_le_mul_right → bN, sub_zero → Pm
open Option renaming getD_some → eZ, isSome_iff_exists → aR, map_none → D5, map_some → cj
open Option.some renaming injEq → af
open PUnit renaming unit → HH
open Prod.mk renaming injEq → aB
namespace Go.Am

inductive Rt where
 |s (i:Nat)|sc (i j:Nat)|c (b j:Nat)
 deriving DecidableEq,Inhabited
inductive AV where
 |any|undef|fo|fv|dp
 |int (k:IntKind) (n:Int)
 |bool (b:Bool)
 |str (s:ByteArray)
 |agg (cs:List AV)
 |dF (vs:List AV)
 |list (k:Nat) (xs:List AV)
 |dh (cs:List AV)
 |ptr (b off:Nat)
 |sl (k b off len:Nat)
 |func (fn:Fn) (first caps:List AV)
 |own (k:Nat) (xs:List AV)
 |dz (k:Nat) (p:Rt) (off len:Nat)
 |eV (k:Nat) (p:Rt) (i off:Nat)
 deriving Inhabited

abbrev Ru:=Option (List AV)
abbrev Heap:=List Ru
abbrev Env:=List (Nat × AV)

def mN:Nat:=4294967296

def get:Env->Nat->AV
 |[],_=>.any
 |(j,u)::r,i=>if i=j then u else get r i
def put:Env->Nat->AV->Env
 |[],i,v=>[(i,v)]
 |(j,u)::r,i,v=>if i<j then (i,v)::(j,u)::r else if i=j then (i,v)::r else (j,u)::put r i v
def mem:Nat->List Nat->Bool
 |_,[]=>false
 |i,j::r=>if i=j then true else mem i r
def rF (keep:List Nat):Env->Env
 |[]=>[]
 |(j,u)::r=>if mem j keep then (j,u)::rF keep r else rF keep r
def tn (env:Env) (d:Option Nat) (v:AV):Env:=
 match d with
 |some d=>put env d v
 |none=>env
def dN:Nat->List AV->Env
 |_,[]=>[]
 |i,a::r=>(i,a)::dN (i+1) r

def AV.cells:AV->List AV
 |.agg cs=>cs
 |x=>[x]
def AV.leaf:AV->Bool
 |.any|.undef|.agg _|.dF _=>false
 |_=>true
def bq:List AV->Bool
 |[]=>true
 |x::r=>x.leaf&&bq r

mutual
def AV.plain:AV->Bool
 |.ptr _ _|.sl _ _ _ _=>false
 |.agg cs=>rm cs
 |.dF cs=>rm cs
 |.func _ a b=>rm a&&rm b
 |_=>true
def rm:List AV->Bool
 |[]=>true
 |x::r=>x.plain&&rm r
end
mutual
def AV.flat:AV->Bool
 |.ptr _ _|.sl _ _ _ _|.list _ _|.dh _=>false
 |.agg cs=>DD cs
 |.dF cs=>DD cs
 |.func _ a b=>DD a&&DD b
 |_=>true
def DD:List AV->Bool
 |[]=>true
 |x::r=>x.flat&&DD r
end
mutual
def AV.tV (n:Nat):AV->Bool
 |.ptr b _=>decide (b<n)
 |.sl _ b _ _=>decide (b<n)
 |.agg cs=>nQ n cs
 |.dF cs=>nQ n cs
 |.func _ a b=>nQ n a&&nQ n b
 |_=>true
def nQ (n:Nat):List AV->Bool
 |[]=>true
 |x::r=>x.tV n&&nQ n r
end
def zV (n:Nat):Heap->Bool
 |[]=>true
 |none::r=>zV n r
 |some cs::r=>nQ n cs&&zV n r

def aJ (H:Heap) (b:Nat):Option (List AV):=
 match H[b]? with
 |some (some cs)=>some cs
 |_=>none
def el:List AV->AV
 |[.agg cs]=>.agg [.agg cs]
 |[x]=>x
 |cs=>.agg cs
def KW (k:Nat):Nat->List AV->List AV
 |0,_=>[]
 |n+1,cs=>el (cs.take k)::KW k n (cs.drop k)
def B6 (f:AV->Option (AV × List Nat)):List AV->Option (List AV × List Nat)
 |[]=>some ([],[])
 |x::r=>match f x,B6 f r with
   |some (y,b),some (ys,bs)=>some (y::ys,b++bs)
   |_,_=>none
def An:Fn->Bool
 |.yield _=>true
 |_=>false
def Cw (H:Heap):Nat->AV->Option (AV × List Nat)
 |0,_=>none
 |n+1,x=>match x with
   |.ptr b off=>match aJ H b with
     |some cs=>match B6 (Cw H n) (cs.drop off) with
       |some (ys,bs)=>some (.dh ys,b::bs)
       |none=>none
     |none=>none
   |.sl k b off len=>match aJ H b with
     |some cs=>if off+len*k<=cs.length then
       match B6 (Cw H n) ((cs.drop off).take (len*k)) with
       |some (ys,bs)=>some (.list k (KW k len ys),b::bs)
       |none=>none
       else none
     |none=>none
   |.agg cs=>match B6 (Cw H n) cs with
     |some (ys,bs)=>some (.agg ys,bs)
     |none=>none
   |.dF cs=>match B6 (Cw H n) cs with
     |some (ys,bs)=>some (.dF ys,bs)
     |none=>none
   |.func f a c=>match An f,B6 (Cw H n) a,B6 (Cw H n) c with
     |false,some (ys,bs),some (zs,cs)=>some (.func f ys zs,bs++cs)
     |_,_,_=>none
   |x=>some (x,[])
def UQ (n:Nat):List Nat->Bool
 |[]=>true
 |b::r=>decide (n<=b)&&UQ n r
def kill:Heap->List Nat->Heap
 |H,[]=>H
 |H,b::r=>kill (H.set b none) r
def Rp:Nat:=8

inductive E where
 |t (i:Nat)|k (x:AV)|g (i:Nat)
 deriving Inhabited

inductive Et where
 |bool|str (ints:List Bool)|Qg|F4|nfn
 deriving Inhabited

inductive Kt where
 |Zf (k:IntKind)|zM|kst (ints:List Bool)
 deriving Inhabited
inductive Kd where
 |mv (x:E)|pick (c a b:E)
 |new (zs:List AV)|box (x:E)
 |build (zs:List AV) (parts:List (Nat × Nat × E))
 |dV (k n:Nat) (zs:List AV) (parts:List (Nat × Nat × E))
 |ld (ag:Option Nat) (x:E)|st (k:Nat) (a v:E)
 |mB (x:E)
 |bin (op:BinOp) (x y:E)|eq (neg:Bool) (t:Et) (x y:E)|un (op:UnOp) (x:E)|LF (k:IntKind) (x:E)
 |O7 (fn:Fn) (first caps:List E)
 |Kx (k:Nat) (zs:List AV) (len cap:E)
 |EN (k:Nat) (x:E) (lo hi:Option E)
 |yn (off:Nat) (x:E)|Ic (n:Nat) (x:E) (hi:Option E)|Wy (off:Nat) (ag:Option Nat) (x:E)
 |sU (k:Nat) (x i:E)|DU (n k:Nat) (x i:E)|ix (n k:Nat) (ag:Option Nat) (x i:E)
 |ext (i:Nat) (x:E)
 |call (f:Nat) (args:List E)|iR (x:E) (args:List E)
 |We (tab:List Nat) (i:E)|UC (k:Nat) (zs:List AV) (x:E)
 |len (x:E)|app (k:Nat) (x y:E)|min (xs:List E)|max (xs:List E)|copy (k:Nat) (x y:E)
 |B4|yH (kt:Kt) (ok:Bool) (z:AV) (x k:E)|zB (kt:Kt) (x k v:E)
 |bad
 deriving Inhabited

structure O where
 dst:Option Nat
 guard:Option (Nat × Bool)
 kd:Kd
 deriving Inhabited

def E.slot:E->List Nat
 |.t i=>[i]
 |_=>[]
def mT:List E->List Nat
 |[]=>[]
 |x::r=>x.slot++mT r
def rb:List (Nat × Nat × E)->List Nat
 |[]=>[]
 |p::r=>p.2.2.slot++rb r
def Is:Option E->List Nat
 |some x=>x.slot
 |none=>[]
def Kd.reads:Kd->List Nat
 |.mv x|.box x|.ld _ x|.mB x|.un _ x|.LF _ x|.yn _ x|.Wy _ _ x|.ext _ x|.len x=>x.slot
 |.pick c a b=>c.slot++(a.slot++b.slot)
 |.new _=>[]
 |.bad=>[]
 |.B4=>[]
 |.yH _ _ _ x k=>x.slot++k.slot
 |.zB _ x k v=>x.slot++(k.slot++v.slot)
 |.We _ i=>i.slot
 |.UC _ _ x=>x.slot
 |.build _ ps|.dV _ _ _ ps=>rb ps
 |.st _ x y|.bin _ x y|.eq _ _ x y|.Kx _ _ x y|.sU _ x y|.DU _ _ x y|.ix _ _ _ x y|.app _ x y|.copy _ x y=>x.slot++y.slot
 |.O7 _ a b=>mT a++mT b
 |.EN _ x lo hi=>x.slot++(Is lo++Is hi)
 |.Ic _ x hi=>x.slot++Is hi
 |.call _ xs|.min xs|.max xs=>mT xs
 |.iR x xs=>x.slot++mT xs
def Kd.pure:Kd->Bool
 |.mv _|.pick _ _ _|.build _ _|.mB _|.bin _ _ _|.eq _ _ _ _|.un _ _|.LF _ _|.O7 _ _ _|.EN _ _ _ _|.yn _ _|.Wy _ _ _|.sU _ _ _|.DU _ _ _ _|.ix _ _ _ _ _|.ext _ _|.We _ _|.len _|.min _|.max _=>true
 |_=>false
def O.reads (o:O):List Nat:=(match o.guard with
 |some (g,_)=>[g]
 |none=>[])++o.kd.reads

inductive Fp where
 |no|rd (b:Nat)|ra|wr (n:Nat) (bs:List Nat)
 deriving Inhabited
def Fp.ok:Fp->Fp->Bool
 |.no,_=>true
 |_,.no=>true
 |.rd _,.rd _=>true
 |.rd _,.ra=>true
 |.ra,.rd _=>true
 |.ra,.ra=>true
 |.rd b,.wr n bs=>decide (b<n)&&!mem b bs
 |.wr n bs,.rd b=>decide (b<n)&&!mem b bs
 |_,_=>false

inductive C where
 |skip|ret|exit (id:Nat)
 |rX (os:List O) (dr:Bool) (un:List (Nat × Nat)) (keep:List Nat)
 |seq (a b:C)|cond (c:E) (a b:C)|aJ (id:Nat) (b:C)|loop (b:C)
 deriving Inhabited

inductive Md where|P|T|K
 deriving Inhabited
inductive Rv where|t (i:Nat)|c (i:Nat) (ag:Option Nat)
 deriving Inhabited
structure gH where
 n:Nat
 np:Nat
 res:List Rv
 body:C
 deriving Inhabited
structure dO where
 fn:Nat->Option (Md × gH)
 gl:Nat->List AV
 orc:Nat->Option (List AV->Heap->Option (AV × Heap))

inductive Ex where|normal|exit (id:Nat)|ret
 deriving Inhabited
structure St where
 env:Env
 H:Heap
 deriving Inhabited

def ev (c:dO) (env:Env):E->AV
 |.t i=>get env i
 |.k x=>x
 |.g i=>.dh (c.gl i)
def En (c:dO) (env:Env):List E->List AV
 |[]=>[]
 |x::r=>ev c env x::En c env r

def BR (ag:Option Nat) (cs:List AV):Option AV:=
 match ag with
 |some k=>if k<=cs.length then some (.agg (cs.take k)) else none
 |none=>cs.head?
def iZ (cs:List AV) (off:Nat) (vs:List AV):List AV:=cs.take off++vs++cs.drop (off+vs.length)
def idx (x:AV) (len:Nat):Option Nat:=
 match x with
 |.int _ i=>if 0<=i/\i<(len:Int) then some i.toNat else none
 |_=>none
def bnd (x:AV) (hi:Nat):Option Nat:=
 match x with
 |.int _ i=>if 0<=i/\i<=(hi:Int) then some i.toNat else none
 |_=>none
def Bw (c:dO) (env:Env) (dflt hi:Nat):Option E->Option Nat
 |none=>some dflt
 |some x=>bnd (ev c env x) hi
def oZ (c:dO) (env:Env):List AV->List (Nat × Nat × E)->Option (List AV)
 |zs,[]=>some zs
 |zs,(off,sz,x)::r=>
   if (ev c env x).cells.length=sz/\off+sz<=zs.length/\bq (ev c env x).cells=true then oZ c env (iZ zs off (ev c env x).cells) r else none

def arith (op:BinOp) (k:IntKind) (x y:Int):Option AV:=
 match op with
 |.add=>some (.int k (k.wrap (x+y)))
 |.sub=>some (.int k (k.wrap (x-y)))
 |.mul=>some (.int k (k.wrap (x*y)))
 |.quo=>if y=0 then none else some (.int k (k.wrap (x.tdiv y)))
 |.rem=>if y=0 then none else some (.int k (x.tmod y))
 |.and=>some (.int k (bits .and k x y))
 |.or=>some (.int k (bits .or k x y))
 |.xor=>some (.int k (bits .xor k x y))
 |.andNot=>some (.int k (bits .andNot k x y))
 |.eql=>some (.bool (x == y))
 |.neq=>some (.bool (x != y))
 |.lss=>some (.bool (decide (x<y)))
 |.leq=>some (.bool (decide (x<=y)))
 |.gtr=>some (.bool (decide (y<x)))
 |.geq=>some (.bool (decide (y<=x)))
 |_=>none
def yp:List Bool->List AV->List AV->Option Bool
 |[],[],[]=>some true
 |true::l,.int k a::r,.int k' b::s=>if k=k' then match yp l r s with
   |some e=>some (a == b&&e)
   |none=>none
   else none
 |false::l,.bool a::r,.bool b::s=>match yp l r s with
   |some e=>some (a == b&&e)
   |none=>none
 |_,_,_=>none
def nB (b:Nat):AV:=.func (.yield 0) [] [.ptr b 0]
def mapOf:AV->Option Nat
 |.func (.yield 0) [] [.ptr b 0]=>some b
 |_=>none
def Wa (ok:Bool) (z:AV) (r:Option (Nat × AV)):AV:=
 match r with
 |some (_,v)=>if ok then .dF [v,.bool true] else v
 |none=>if ok then .dF [z,.bool false] else z
def zD (k v:AV) (es:List AV) (r:Option (Nat × AV)):List AV:=
 match r with
 |some (i,_)=>es.set i (.dF [k,v])
 |none=>es++[.dF [k,v]]
def xW:Kt->AV->AV->Option Bool
 |.Zf k,.int k1 a,.int k2 b=>if k1=k/\k2=k then some (a == b) else none
 |.zM,.str a,.str b=>some (a == b)
 |.kst l,.agg xs,.agg ys=>yp l xs ys
 |_,_,_=>none
def gP (t:Kt) (k:AV):List AV->Nat->Option (Option (Nat × AV))
 |[],_=>some none
 |.dF [k',v]::r,i=>match xW t k k' with
   |some true=>some (some (i,v))
   |some false=>gP t k r (i+1)
   |none=>none
 |_::_,_=>none
def isNil:Et->AV->Option Bool
 |.Qg,.dp=>some true
 |.Qg,.sl _ _ _ _=>some false
 |.Qg,.list _ (_::_)=>some false
 |.F4,.fo=>some true
 |.F4,.ptr _ _=>some false
 |.F4,.dh _=>some false
 |.nfn,.fv=>some true
 |.nfn,.func f _ _=>if An f then none else some false
 |_,_=>none
def WB:Et->AV->AV->Option Bool
 |.bool,.bool a,.bool b=>some (a == b)
 |.str l,.agg xs,.agg ys=>yp l xs ys
 |.Qg,x,.dp=>isNil .Qg x
 |.F4,x,.fo=>isNil .F4 x
 |.nfn,x,.fv=>isNil .nfn x
 |_,_,_=>none
def qT (op:BinOp) (x y:AV):Option AV:=
 match x,y with
 |.int k a,.int k' b=>match op with
   |.shl=>if b<0 then none else some (.int k (k.wrap (a*2 ^ (min b.toNat k.bits))))
   |.shr=>if b<0 then none else some (.int k (a.fdiv (2 ^ (min b.toNat k.bits))))
   |op=>if k=k' then arith op k a b else none
 |.str a,.str b=>match op with
   |.add=>if a.size+b.size<=1000000000 then some (.str (a++b)) else none
   |_=>none
 |_,_=>none
def PE (op:UnOp) (x:AV):Option AV:=
 match op,x with
 |.neg,.int k n=>some (.int k (k.wrap (0-n)))
 |.xor,.int k n=>some (.int k (bits .xor k (if k.signed then -1 else k.max) n))
 |.not,.bool b=>some (.bool (!b))
 |_,_=>none
def aA:List AV->List AV
 |[]=>[]
 |x::r=>x.cells++aA r
def iA (H:Heap) (k:Nat):AV->Option (List AV × Nat)
 |.dp=>some ([],0)
 |.list k' xs=>if k'=k then some (aA xs,xs.length) else none
 |.sl k' b off len=>match aJ H b with
   |some cs=>if k'=k/\off+len*k<=cs.length then some ((cs.drop off).take (len*k),len) else none
   |none=>none
 |_=>none
def Y9:AV->Option Nat
 |.dp=>some 0
 |.list _ xs=>some xs.length
 |.sl _ _ _ len=>some len
 |_=>none
def zH (mx:Bool):AV->List AV->Option AV
 |x,[]=>some x
 |.int k a,.int _ b::r=>zH mx (.int k (if mx then (if b > a then b else a) else (if b<a then b else a))) r
 |_,_=>none
def yG (mx:Bool):List AV->Option AV
 |.int k a::r=>zH mx (.int k a) r
 |_=>none
def rep (zs:List AV):Nat->List AV
 |0=>[]
 |n+1=>zs++rep zs n

def xe (c:dO) (call:Nat->List AV->Heap->Option (AV × Heap)) (f:Nat) (args:List AV) (H:Heap):Option (AV × Heap × Fp):=
 match c.fn f with
 |none=>none
 |some (.K,_)=>match call f args H with
   |some (r,H')=>some (r,H',.wr 0 [])
   |none=>none
 |some (.T,_)=>match call f args H with
   |some (r,H')=>match Cw H' Rp r with
     |some (r',bs)=>if H.length<=H'.length/\UQ H.length bs=true/\zV H.length (H'.take H.length)=true then some (r',H'.take H.length,.wr 0 []) else none
     |none=>none
   |none=>none
 |some (.P,_)=>if rm args then
   match call f args [] with
   |some (r,H')=>match Cw H' Rp r with
     |some (r',_)=>some (r',H,.no)
     |none=>none
   |none=>none
   else match B6 (Cw H Rp) args with
    |some (sM,bs)=>match call f sM [] with
      |some (r,H')=>match Cw H' Rp r with
        |some (r',_)=>if r'.flat then some (r',H,.ra) else some (r',kill H bs,.wr 0 [])
        |none=>none
      |none=>none
    |none=>none

def fu (c:dO) (call:Nat->List AV->Heap->Option (AV × Heap)) (env:Env) (H:Heap):Kd->Option (AV × Heap × Fp)
 |.mv x=>some (ev c env x,H,.no)
 |.pick t a b=>match ev c env t with
   |.bool t=>some (if t then ev c env a else ev c env b,H,.no)
   |_=>none
 |.new zs=>some (.ptr H.length 0,H++[some zs],.wr H.length [])
 |.box x=>if bq (ev c env x).cells then some (.ptr H.length 0,H++[some (ev c env x).cells],.wr H.length []) else none
 |.build zs ps=>match oZ c env zs ps with
   |some cs=>some (.agg cs,H,.no)
   |none=>none
 |.dV k n zs ps=>match oZ c env (rep zs n) ps with
   |some cs=>if bq cs then some (.sl k H.length 0 n,H++[some cs],.wr H.length []) else none
   |none=>none
 |.ld ag x=>match ev c env x with
   |.dh cs=>match BR ag cs with
     |some v=>some (v,H,.no)
     |none=>none
   |.ptr b off=>match aJ H b with
     |some cs=>match BR ag (cs.drop off) with
       |some v=>some (v,H,.rd b)
       |none=>none
     |none=>none
   |_=>none
 |.st k a v=>match ev c env a with
   |.ptr b off=>match aJ H b with
     |some cs=>if (ev c env v).cells.length=k/\off+k<=cs.length/\bq (ev c env v).cells=true then
       some (.undef,H.set b (some (iZ cs off (ev c env v).cells)),.wr H.length [b]) else none
     |none=>none
   |_=>none
 |.mB x=>match ev c env x with
   |.ptr b off=>some (.ptr b off,H,.no)
   |.dh cs=>some (.dh cs,H,.no)
   |.func (.func f) a b=>some (.func (.func f) a b,H,.no)
   |_=>none
 |.bin op x y=>match qT op (ev c env x) (ev c env y) with
   |some v=>some (v,H,.no)
   |none=>none
 |.eq ng t x y=>match WB t (ev c env x) (ev c env y) with
   |some e=>some (.bool (if ng then !e else e),H,.no)
   |none=>none
 |.un op x=>match PE op (ev c env x) with
   |some v=>some (v,H,.no)
   |none=>none
 |.LF k x=>match ev c env x with
   |.int _ n=>some (.int k (k.wrap n),H,.no)
   |_=>none
 |.O7 fn a b=>if An fn then none else some (.func fn (En c env a) (En c env b),H,.no)
 |.B4=>some (nB H.length,H++[some []],.wr H.length [])
 |.yH kt ok z x k=>match mapOf (ev c env x) with
   |some b=>match aJ H b with
     |some es=>if xW kt (ev c env k) (ev c env k)=some true then
       match gP kt (ev c env k) es 0 with
       |some r=>some (Wa ok z r,H,.rd b)
       |none=>none
       else none
     |none=>none
   |none=>none
 |.zB kt x k v=>match mapOf (ev c env x) with
   |some b=>match aJ H b with
     |some es=>if xW kt (ev c env k) (ev c env k)=some true then
       match gP kt (ev c env k) es 0 with
       |some r=>some (.undef,H.set b (some (zD (ev c env k) (ev c env v) es r)),.wr H.length [b])
       |none=>none
       else none
     |none=>none
   |none=>none
 |.Kx k zs l cp=>match ev c env l,ev c env cp with
   |.int _ l,.int _ cp=>if 0<=l/\l<=cp/\cp<=(mN:Int) then some (.sl k H.length 0 l.toNat,H++[some (rep zs l.toNat)],.wr H.length []) else none
   |_,_=>none
 |.EN k x lo hi=>match Y9 (ev c env x) with
   |some n=>match Bw c env n n hi with
     |some h=>match Bw c env 0 h lo with
       |some l=>match ev c env x with
         |.dp=>some (.dp,H,.no)
         |.list k' xs=>if k'=k then some (.list k ((xs.take h).drop l),H,.no) else none
         |.sl k' b off _=>if k'=k then some (.sl k b (off+l*k) (h-l),H,.no) else none
         |_=>none
       |none=>none
     |none=>none
   |none=>none
 |.yn off x=>match ev c env x with
   |.ptr b o=>some (.ptr b (o+off),H,.no)
   |.dh cs=>some (.dh (cs.drop off),H,.no)
   |_=>none
 |.Ic n x hi=>match Bw c env n n hi with
   |some m=>match ev c env x with
     |.dh cs=>if n<=cs.length/\m=n/\bq (cs.take n)=true then some (.list 1 (cs.take n),H,.no) else none
     |.ptr b off=>match aJ H b with
       |some cs=>if off+n<=cs.length then some (.sl 1 b off m,H,.rd b) else none
       |none=>none
     |_=>none
   |none=>none
 |.Wy off ag x=>match ev c env x with
   |.agg cs=>match BR ag (cs.drop off) with
     |some v=>some (v,H,.no)
     |none=>none
   |_=>none
 |.sU k x i=>match ev c env x with
   |.list k' xs=>match idx (ev c env i) xs.length with
     |some j=>if k'=k then match xs[j]? with
       |some v=>some (.dh v.cells,H,.no)
       |none=>none
       else none
     |none=>none
   |.sl k' b off len=>match idx (ev c env i) len with
     |some j=>if k'=k then some (.ptr b (off+j*k),H,.no) else none
     |none=>none
   |_=>none
 |.DU n k x i=>match idx (ev c env i) n with
   |some j=>match ev c env x with
     |.ptr b off=>some (.ptr b (off+j*k),H,.no)
     |.dh cs=>some (.dh (cs.drop (j*k)),H,.no)
     |_=>none
   |none=>none
 |.ix n k ag x i=>match idx (ev c env i) n with
   |some j=>match ev c env x with
     |.agg cs=>match BR ag (cs.drop (j*k)) with
       |some v=>some (v,H,.no)
       |none=>none
     |_=>none
   |none=>none
 |.We tab i=>match idx (ev c env i) tab.length with
   |some j=>match tab[j]? with
     |some v=>some (.int .u8 v,H,.no)
     |none=>none
   |none=>none
 |.UC k zs x=>match ev c env x with
   |.dp=>some (.undef,H,.wr H.length [])
   |.list _ []=>some (.undef,H,.wr H.length [])
   |.sl k' b off len=>if len=0 then some (.undef,H,.wr H.length []) else match aJ H b with
     |some cs=>if k'=k/\off+len*k<=cs.length then some (.undef,H.set b (some (iZ cs off (rep zs len))),.wr H.length [b]) else none
     |none=>none
   |_=>none
 |.ext i x=>match ev c env x with
   |.dF vs=>match vs[i]? with
     |some v=>some (v,H,.no)
     |none=>none
   |_=>none
 |.call f args=>xe c call f (En c env args) H
 |.iR x args=>match ev c env x with
   |.func (.func f) a b=>xe c call f (a++En c env args++b) H
   |_=>none
 |.len x=>match Y9 (ev c env x) with
   |some n=>some (.int .i64 n,H,.no)
   |none=>none
 |.app k x y=>match iA H k (ev c env y) with
   |some (news,m)=>match ev c env x with
     |.dp=>if m=0 then some (.dp,H,.wr H.length []) else if m<=mN/\bq news=true then some (.sl k H.length 0 m,H++[some news],.wr H.length []) else none
     |.sl k' b 0 n=>match aJ H b with
       |some cs=>if k'=k/\n*k<=cs.length/\n+m<=mN/\bq news=true then some (.sl k H.length 0 (n+m),H.set b none++[some (cs.take (n*k)++news)],.wr H.length [b]) else none
       |none=>none
     |_=>none
   |none=>none
 |.min xs=>match yG false (En c env xs) with
   |some v=>some (v,H,.no)
   |none=>none
 |.max xs=>match yG true (En c env xs) with
   |some v=>some (v,H,.no)
   |none=>none
 |.copy k x y=>match iA H k (ev c env y) with
   |some (news,m)=>match ev c env x with
     |.dp=>some (.int .i64 0,H,.wr H.length [])
     |.sl k' b off n=>match aJ H b with
       |some cs=>if k'=k/\off+n*k<=cs.length/\bq news=true then some (.int .i64 (min m n:Nat),H.set b (some (iZ cs off (news.take (min m n*k)))),.wr H.length [b]) else none
       |none=>none
     |_=>none
   |none=>none
 |.bad=>none

def XG (H:Heap) (env:Env):Rv->Option AV
 |.t i=>some (get env i)
 |.c i ag=>match get env i with
   |.ptr b off=>match aJ H b with
     |some cs=>BR ag (cs.drop off)
     |none=>none
   |.dh cs=>BR ag cs
   |_=>none
def L5 (H:Heap) (env:Env):List Rv->Option (List AV)
 |[]=>some []
 |r::rs=>match XG H env r,L5 H env rs with
   |some v,some vs=>some (v::vs)
   |_,_=>none
def ob:List AV->AV
 |[x]=>x
 |vs=>.dF vs

end Go.Am

/- How abstract values stand for values of the model in a world. -/
namespace Go.Am

abbrev cZ:=List (Option (Nat × Nat))
def bX (φ:cZ) (g:Nat):Prop:=∃b sz:Nat,φ[b]?=some (some (g,sz))
def Rd (X:Nat->Prop) (φ:cZ) (w:World) (a:Addr) (u:Value):Prop:=¬X a.block/\¬ bX φ a.block/\w.cell? a=some u

inductive bF (R:Addr->Value->Prop):cZ->AV->Value->Prop
 |any (φ:cZ) (v:Value):bF R φ .any v
 |undef (φ:cZ):bF R φ .undef (.tuple #[])
 |fo (φ:cZ):bF R φ .fo (.pointer none)
 |fv (φ:cZ):bF R φ .fv .nilFunc
 |dp (φ:cZ):bF R φ .dp (.slice none 0 0)
 |int (φ:cZ) (k:IntKind) (n:Int):bF R φ (.int k n) (.int k n)
 |bool (φ:cZ) (b:Bool):bF R φ (.bool b) (.bool b)
 |str (φ:cZ) (s:ByteArray):bF R φ (.str s) (.string s)
 |agg (φ:cZ) (cs:List AV) (vs:Array Value) (hl:cs.length=vs.size) (h:∀(i:Nat) (c:AV) (v:Value),cs[i]?=some c->vs[i]?=some v->bF R φ c v):bF R φ (.agg cs) (.agg vs)
 |dF (φ:cZ) (cs:List AV) (vs:Array Value) (hl:cs.length=vs.size) (h:∀(i:Nat) (c:AV) (v:Value),cs[i]?=some c->vs[i]?=some v->bF R φ c v):bF R φ (.dF cs) (.tuple vs)
 |func (φ:cZ) (f:Fn) (as:List AV) (va:Array Value) (bs:List AV) (vb:Array Value) (hy:An f=false) (zT:as.length=va.size) (zS:bs.length=vb.size)
   (ha:∀(i:Nat) (c:AV) (v:Value),as[i]?=some c->va[i]?=some v->bF R φ c v) (hb:∀(i:Nat) (c:AV) (v:Value),bs[i]?=some c->vb[i]?=some v->bF R φ c v):bF R φ (.func f as bs) (.func f va vb)
 |vO (φ:cZ) (k:Nat) (xs:List AV) (a:Addr) (n cap:Nat) (u:Nat->Nat->Value) (hn:n=xs.length) (iP:n<=cap) (hk:∀x∈xs,x.cells.length=k)
   (hu:∀(i j:Nat) (x c:AV),xs[i]?=some x->x.cells[j]?=some c->R (a.add (i*k+j)) (u i j))
   (h:∀(i j:Nat) (x c:AV),xs[i]?=some x->x.cells[j]?=some c->bF R [] c (u i j)):bF R φ (.list k xs) (.slice (some a) n cap)
 |j7 (φ:cZ) (k:Nat):bF R φ (.list k []) (.slice none 0 0)
 |dh (φ:cZ) (cs:List AV) (a:Addr) (u:Nat->Value) (hu:∀(j:Nat) (c:AV),cs[j]?=some c->R (a.add j) (u j))
   (h:∀(j:Nat) (c:AV),cs[j]?=some c->bF R [] c (u j)):bF R φ (.dh cs) (.pointer (some a))
 |ptr (φ:cZ) (b off:Nat) (a:Addr) (hb:b<φ.length) (h:∀g sz:Nat,φ[b]?=some (some (g,sz))->a=⟨g,off,none⟩/\0<sz):bF R φ (.ptr b off) (.pointer (some a))
 |sl (φ:cZ) (k b off len:Nat) (a:Addr) (cap:Nat) (hb:b<φ.length) (hc:len<=cap)
   (h:∀g sz:Nat,φ[b]?=some (some (g,sz))->(0<cap->a=⟨g,off,none⟩)/\off+cap*k<sz):bF R φ (.sl k b off len) (.slice (some a) len cap)
 |zC (φ:cZ) (b r:Nat) (hb:b<φ.length) (h:∀g sz:Nat,φ[b]?=some (some (g,sz))->r=g/\sz=0):bF R φ (.func (.yield 0) [] [.ptr b 0]) (.map (some r))

theorem bF.w8 {R:Addr->Value->Prop} {φ:cZ} {f:Fn} {as bs:List AV} {v:Value} (h:bF R φ (.func f as bs) v) :
  (An f=false/\∃ va vb,v=.func f va vb/\as.length=va.size/\bs.length=vb.size/\(∀(i:Nat) (c:AV) (v:Value),as[i]?=some c->va[i]?=some v->bF R φ c v)/\∀ (i:Nat) (c:AV) (v:Value),bs[i]?=some c->vb[i]?=some v->bF R φ c v) \/
  ∃ b r,f=.yield 0/\as=[]/\bs=[.ptr b 0]/\v=.map (some r)/\b<φ.length/\∀ g sz:Nat,φ[b]?=some (some (g,sz))->r=g/\sz=0:=by
 generalize hx:AV.func f as bs=x at h;cases h<;>cases hx
 case func hy zT ha zS hb=>exact .inl ⟨hy,_,_,rfl,zT,zS,ha,hb⟩
 case zC hb h=>exact .inr ⟨_,_,rfl,rfl,rfl,rfl,hb,h⟩
theorem aZ {α:Type} {l:List α} {i:Nat} (h:i<l.length):∃x,l[i]?=some x:=⟨l[i],List.getElem?_eq_getElem h⟩
theorem bW {α:Type} {l:Array α} {i:Nat} (h:i<l.size):∃x,l[i]?=some x:=⟨l[i],kc h⟩
theorem ak {α:Type} {l:List α} {i:Nat} {x:α} (h:l[i]?=some x):i<l.length:=(List.getElem?_eq_some_iff.1 h).1
theorem kO {α:Type} {l:Array α} {i:Nat} {x:α} (h:l[i]?=some x):i<l.size:=(fk.1 h).1

structure xt (φ φ':cZ):Prop where
 len:φ.length<=φ'.length
 HQ:∀(b:Nat) (p:Nat × Nat),b<φ.length->φ'[b]?=some (some p)->φ[b]?=some (some p)
theorem xt.refl (φ:cZ):xt φ φ:=⟨aI _,fun _ _ _ h=>h⟩
theorem xt.trans {a b c:cZ} (h:xt a b) (k:xt b c):xt a c:=
 ⟨Po h.len k.len,fun i p hi hp=>h.HQ i p hi (k.HQ i p (fQ hi h.len) hp)⟩

theorem bF.mono {R R':Addr->Value->Prop} (hR:∀a u,R a u->R' a u) {φ:cZ} {x:AV} {v:Value} (h:bF R φ x v):∀{φ':cZ},xt φ φ'->bF R' φ' x v:=by
 induction h with
 |any=>intro φ' _; exact .any _ _
 |undef=>intro φ' _; exact .undef _
 |fo=>intro φ' _; exact .fo _
 |fv=>intro φ' _; exact .fv _
 |dp=>intro φ' _; exact .dp _
 |int=>intro φ' _; exact .int _ _ _
 |bool=>intro φ' _; exact .bool _ _
 |str=>intro φ' _; exact .str _ _
 |agg φ cs vs hl h ih=>intro φ' hp; exact .agg _ _ _ hl fun i c v h1 h2=>ih i c v h1 h2 hp
 |dF φ cs vs hl h ih=>intro φ' hp; exact .dF _ _ _ hl fun i c v h1 h2=>ih i c v h1 h2 hp
 |zC φ b r hb h=>intro φ' hp; exact .zC _ _ _ (fQ hb hp.len) fun g sz hg=>h g sz (hp.HQ _ _ hb hg)
 |func φ f as va bs vb hy zT zS ha hb Zt Wj=>intro φ' hp; exact .func _ _ _ _ _ _ hy zT zS (fun i c v h1 h2=>Zt i c v h1 h2 hp) (fun i c v h1 h2=>Wj i c v h1 h2 hp)
 |vO φ k xs a n cap u hn iP hk hu h ih=>intro φ' _; exact .vO _ _ _ _ _ _ u hn iP hk (fun i j x c h1 h2=>hR _ _ (hu i j x c h1 h2)) (fun i j x c h1 h2=>ih i j x c h1 h2 (.refl _))
 |j7=>intro φ' _; exact .j7 _ _
 |dh φ cs a u hu h ih=>intro φ' _; exact .dh _ _ _ u (fun j c h1=>hR _ _ (hu j c h1)) (fun j c h1=>ih j c h1 (.refl _))
 |ptr φ b off a hb h=>intro φ' hp; exact .ptr _ _ _ _ (fQ hb hp.len) fun g sz hg=>h g sz (hp.HQ _ _ hb hg)
 |sl φ k b off len a cap hb hc h=>intro φ' hp; exact .sl _ _ _ _ _ _ _ (fQ hb hp.len) hc fun g sz hg=>h g sz (hp.HQ _ _ hb hg)

theorem rl {cs:List AV} (h:rm cs=true):∀(i:Nat) (c:AV),cs[i]?=some c->c.plain=true:=by
 induction cs with
 |nil=>intro i c hc; simp at hc
 |cons x r ih=>
   simp only[rm,ae] at h;intro i c hc;cases i with
   |zero=>simp at hc; subst hc; exact h.1
   |succ i=>simp at hc; exact ih h.2 i c hc
theorem ym {cs:List AV} (h:DD cs=true):∀(i:Nat) (c:AV),cs[i]?=some c->c.flat=true:=by
 induction cs with
 |nil=>intro i c hc; simp at hc
 |cons x r ih=>
   simp only[DD,ae] at h;intro i c hc;cases i with
   |zero=>simp at hc; subst hc; exact h.1
   |succ i=>simp at hc; exact ih h.2 i c hc
theorem oh {n:Nat} {cs:List AV} (h:nQ n cs=true):∀(i:Nat) (c:AV),cs[i]?=some c->c.tV n=true:=by
 induction cs with
 |nil=>intro i c hc; simp at hc
 |cons x r ih=>
   simp only[nQ,ae] at h;intro i c hc;cases i with
   |zero=>simp at hc; subst hc; exact h.1
   |succ i=>simp at hc; exact ih h.2 i c hc
theorem xm {cs:List AV} (h:bq cs=true):∀(i:Nat) (c:AV),cs[i]?=some c->c.leaf=true:=by
 induction cs with
 |nil=>intro i c hc; simp at hc
 |cons x r ih=>
   simp only[bq,ae] at h;intro i c hc;cases i with
   |zero=>simp at hc; subst hc; exact h.1
   |succ i=>simp at hc; exact ih h.2 i c hc

theorem bF.dC {R:Addr->Value->Prop} {φ:cZ} {x:AV} {v:Value} (h:bF R φ x v):x.plain=true->∀ψ,bF R ψ x v:=by
 induction h with
 |any=>intro _ ψ; exact .any _ _
 |undef=>intro _ ψ; exact .undef _
 |fo=>intro _ ψ; exact .fo _
 |fv=>intro _ ψ; exact .fv _
 |dp=>intro _ ψ; exact .dp _
 |int=>intro _ ψ; exact .int _ _ _
 |bool=>intro _ ψ; exact .bool _ _
 |str=>intro _ ψ; exact .str _ _
 |agg φ cs vs hl h ih=>intro hp ψ; simp only[AV.plain] at hp; exact .agg _ _ _ hl fun i c v h1 h2=>ih i c v h1 h2 (rl hp i c h1) ψ
 |dF φ cs vs hl h ih=>intro hp ψ; simp only[AV.plain] at hp; exact .dF _ _ _ hl fun i c v h1 h2=>ih i c v h1 h2 (rl hp i c h1) ψ
 |func φ f as va bs vb hy zT zS ha hb Zt Wj=>
   intro hp ψ;simp only[AV.plain,ae] at hp;exact .func _ _ _ _ _ _ hy zT zS (fun i c v h1 h2=>Zt i c v h1 h2 (rl hp.1 i c h1) ψ) (fun i c v h1 h2=>Wj i c v h1 h2 (rl hp.2 i c h1) ψ)
 |vO φ k xs a n cap u hn iP hk hu h ih=>intro _ ψ; exact .vO _ _ _ _ _ _ u hn iP hk hu h
 |j7=>intro _ ψ; exact .j7 _ _
 |dh φ cs a u hu h ih=>intro _ ψ; exact .dh _ _ _ u hu h
 |ptr=>intro hp; simp[AV.plain] at hp
 |sl=>intro hp; simp[AV.plain] at hp
 |zC=>intro hp; simp[AV.plain,rm] at hp
theorem bF.of_flat {R:Addr->Value->Prop} {φ:cZ} {x:AV} {v:Value} (h:bF R φ x v):x.flat=true->∀(R':Addr->Value->Prop) ψ,bF R' ψ x v:=by
 induction h with
 |any=>intro _ _ ψ; exact .any _ _
 |undef=>intro _ _ ψ; exact .undef _
 |fo=>intro _ _ ψ; exact .fo _
 |fv=>intro _ _ ψ; exact .fv _
 |dp=>intro _ _ ψ; exact .dp _
 |int=>intro _ _ ψ; exact .int _ _ _
 |bool=>intro _ _ ψ; exact .bool _ _
 |str=>intro _ _ ψ; exact .str _ _
 |agg φ cs vs hl h ih=>intro hp R' ψ; simp only[AV.flat] at hp; exact .agg _ _ _ hl fun i c v h1 h2=>ih i c v h1 h2 (ym hp i c h1) R' ψ
 |dF φ cs vs hl h ih=>intro hp R' ψ; simp only[AV.flat] at hp; exact .dF _ _ _ hl fun i c v h1 h2=>ih i c v h1 h2 (ym hp i c h1) R' ψ
 |func φ f as va bs vb hy zT zS ha hb Zt Wj=>
   intro hp R' ψ;simp only[AV.flat,ae] at hp;exact .func _ _ _ _ _ _ hy zT zS (fun i c v h1 h2=>Zt i c v h1 h2 (ym hp.1 i c h1) R' ψ) (fun i c v h1 h2=>Wj i c v h1 h2 (ym hp.2 i c h1) R' ψ)
 |vO=>intro hp; simp[AV.flat] at hp
 |j7=>intro hp; simp[AV.flat] at hp
 |dh=>intro hp; simp[AV.flat] at hp
 |ptr=>intro hp; simp[AV.flat] at hp
 |sl=>intro hp; simp[AV.flat] at hp
 |zC=>intro hp; simp[AV.flat,DD] at hp
theorem bF.take {R:Addr->Value->Prop} {φ:cZ} {x:AV} {v:Value} {n:Nat} (h:bF R φ x v):x.tV n=true->bF R (φ.take n) x v:=by
 induction h with
 |any=>intro _; exact .any _ _
 |undef=>intro _; exact .undef _
 |fo=>intro _; exact .fo _
 |fv=>intro _; exact .fv _
 |dp=>intro _; exact .dp _
 |int=>intro _; exact .int _ _ _
 |bool=>intro _; exact .bool _ _
 |str=>intro _; exact .str _ _
 |agg φ cs vs hl h ih=>intro hp; simp only[AV.tV] at hp; exact .agg _ _ _ hl fun i c v h1 h2=>ih i c v h1 h2 (oh hp i c h1)
 |dF φ cs vs hl h ih=>intro hp; simp only[AV.tV] at hp; exact .dF _ _ _ hl fun i c v h1 h2=>ih i c v h1 h2 (oh hp i c h1)
 |func φ f as va bs vb hy zT zS ha hb Zt Wj=>
   intro hp;simp only[AV.tV,ae] at hp;exact .func _ _ _ _ _ _ hy zT zS (fun i c v h1 h2=>Zt i c v h1 h2 (oh hp.1 i c h1)) (fun i c v h1 h2=>Wj i c v h1 h2 (oh hp.2 i c h1))
 |vO φ k xs a n cap u hn iP hk hu h ih=>intro _; exact .vO _ _ _ _ _ _ u hn iP hk hu h
 |j7=>intro _; exact .j7 _ _
 |dh φ cs a u hu h ih=>intro _; exact .dh _ _ _ u hu h
 |ptr φ b off a hb h=>
   intro hp;have NY:b<n:=by simpa[AV.tV] using hp
   refine .ptr _ _ _ _ (by rw[bj]; omega) fun g sz hg=>h g sz ?_;rw[aQ NY] at hg;exact hg
 |sl φ k b off len a cap hb hc h=>
   intro hp;have NY:b<n:=by simpa[AV.tV] using hp
   refine .sl _ _ _ _ _ _ _ (by rw[bj]; omega) hc fun g sz hg=>h g sz ?_;rw[aQ NY] at hg;exact hg
 |zC φ b r hb h=>
   intro hp;have NY:b<n:=by simpa[AV.tV,nQ] using hp
   refine .zC _ _ _ (by rw[bj]; omega) fun g sz hg=>h g sz ?_;rw[aQ NY] at hg;exact hg
theorem bF.ss {R:Addr->Value->Prop} {φ:cZ} {x:AV} {v:Value} (h:bF R φ x v) (hl:x.leaf=true):v.oneCell'=true:=by
 cases h<;>first|rfl|simp[AV.leaf] at hl

theorem bF.cells {R:Addr->Value->Prop} {φ:cZ} {x:AV} {v:Value} (h:bF R φ x v) (hs:bq x.cells=true) :
  x.cells.length=v.cells.size/\∀ (i:Nat) (c:AV),x.cells[i]?=some c->∃u,v.cells[i]?=some u/\bF R φ c u/\u.oneCell'=true:=by
 have one:∀{x:AV} {v:Value},x.cells=[x]->v.cells=#[v]->bF R φ x v->bq x.cells=true ->
   x.cells.length=v.cells.size/\∀ (i:Nat) (c:AV),x.cells[i]?=some c->∃u,v.cells[i]?=some u/\bF R φ c u/\u.oneCell'=true:=by
  intro x v hx hv h hs;rw[hx,hv];refine⟨rfl,fun i c hc=>?_⟩;cases i with
  |zero=>
    simp at hc; subst hc;refine⟨v,by simp,h,h.ss ?_⟩;rw[hx] at hs; simpa[bq] using hs
  |succ i=>simp at hc
 cases h with
 |any=>simp[AV.cells,bq,AV.leaf] at hs
 |agg φ cs vs hl h=>
   refine⟨hl,fun i c hc=>?_⟩;have hi:i<vs.size:=hl▸ak hc;obtain⟨u,hu⟩:=bW hi;exact⟨u,hu,h i c u hc hu,(h i c u hc hu).ss (xm hs i c hc)⟩
 |_=>exact one rfl rfl (by first|exact .undef _|exact .fo _|exact .fv _|exact .dp _|exact .int _ _ _|exact .bool _ _|exact .str _ _|exact .j7 _ _|(constructor<;>assumption)) hs

def Vw (o:Obj) (sz:Nat) (arr:Array Value):Prop:=
 (∃e,o=.cells arr e (0,0)/\arr.size+1=sz)\/(∃es Pj,o=.map es Pj/\sz=0/\arr=es.map fun e=>.tuple #[e.key,e.val])
theorem Vw.cells {o:Obj} {sz:Nat} {arr:Array Value} (h:Vw o sz arr) (h0:0<sz):∃e,o=.cells arr e (0,0)/\arr.size+1=sz:=by
 rcases h with h|⟨_,_,_,h,_⟩
 ·exact h
 ·omega
theorem Vw.leaf {o:Obj} {sz:Nat} {arr:Array Value} (h:Vw o sz arr) {i:Nat} {u:Value} (hu:arr[i]?=some u) {R:Addr->Value->Prop} {φ:cZ} {x:AV} (r:bF R φ x u) (hx:x.leaf=true):∃e,o=.cells arr e (0,0)/\arr.size+1=sz:=by
 rcases h with h|⟨es,_,_,_,rfl⟩
 ·exact h
 ·rw[rW] at hu;cases he:es[i]? with
  |none=>rw[he] at hu; cases hu
  |some e=>
    rw[he] at hu;simp only[cj,af] at hu;subst hu;cases r<;>simp[AV.leaf] at hx
structure bV (X:Nat->Prop) (φ:cZ) (w:World) (H:Heap):Prop where
 len:φ.length=H.length
 HK:∀g,X g->g<w.heap.size
 live:∀(b:Nat) (cs:List AV),H[b]?=some (some cs)->∃(g sz:Nat) (arr:Array Value) (o:Obj),φ[b]?=some (some (g,sz))/\w.heap[g]?=some o/\Vw o sz arr/\(cs.length<=arr.size/\(sz=0->cs.length=arr.size))/\¬ X g /\
  ∀ (i:Nat) (c:AV),cs[i]?=some c->∃u,arr[i]?=some u/\bF (Rd X φ w) φ c u
 dead:∀b:Nat,H[b]?=some none->φ[b]?=some none
 inj:∀b b' g sz pe:Nat,φ[b]?=some (some (g,sz))->φ[b']?=some (some (g,pe))->b=b'

structure eW (φ:cZ) (w:World) (φ':cZ) (w':World):Prop where
 os:w'.os=w.os
 tape:w'.tape=w.tape
 output:w'.output=w.output
 drawn:w.drawn<=w'.drawn
 size:w.heap.size<=w'.heap.size
 keep:∀g,g<w.heap.size->¬bX φ g->w'.heap[g]?=w.heap[g]?/\¬ bX φ' g
 Tj:xt φ φ'
theorem eW.refl (φ:cZ) (w:World):eW φ w φ w:=⟨rfl,rfl,rfl,aI _,aI _,fun _ _ h=>⟨rfl,h⟩,.refl _⟩
theorem eW.trans {φ φ' pj:cZ} {w w' W6:World} (h:eW φ w φ' w') (k:eW φ' w' pj W6):eW φ w pj W6:=
 ⟨k.os.trans h.os,k.tape.trans h.tape,k.output.trans h.output,Po h.drawn k.drawn,Po h.size k.size,
  fun g hg ho=>⟨(k.keep g (fQ hg h.size) (h.keep g hg ho).2).1.trans (h.keep g hg ho).1,(k.keep g (fQ hg h.size) (h.keep g hg ho).2).2⟩,h.Tj.trans k.Tj⟩
theorem eW.rd {X:Nat->Prop} {φ φ':cZ} {w w':World} (h:eW φ w φ' w'):∀a u,Rd X φ w a u->Rd X φ' w' a u:=by
 intro a u ⟨h1,h2,h3⟩;have bQ:=World.block_lt_of_cell? w a h3;exact⟨h1,(h.keep _ bQ h2).2,(World.cell?_of_block (h.keep _ bQ h2).1).trans h3⟩
theorem eW.rep {X:Nat->Prop} {φ φ':cZ} {w w':World} (h:eW φ w φ' w') {x:AV} {v:Value} (r:bF (Rd X φ w) φ x v):bF (Rd X φ' w') φ' x v:=r.mono h.rd h.Tj
theorem eW.drew (φ:cZ) (w:World):eW φ w φ w.drew:=⟨rfl,rfl,rfl,Nat.le_succ _,aI _,fun _ _ h=>⟨rfl,h⟩,.refl _⟩

def o9 (X:Nat->Prop) (φ:cZ) (w:World) (env:Env) (tmps:Array Value):Prop:=∀i,bF (Rd X φ w) φ (get env i) (tmps.getD i undef)
theorem bD (env:Env) (d:Nat) (v:AV) (i:Nat):get (put env d v) i=if i=d then v else get env i:=by
 induction env with
 |nil=>by_cases h:i=d<;>simp[put,get,h]
 |cons p r ih=>
   obtain⟨j,u⟩:=p;unfold put;split
   ·by_cases h:i=d<;>simp[get,h]
   ·split
    ·rename_i h1 h2;subst h2;by_cases h:i=d<;>simp[get,h]
    ·rename_i h1 h2;simp only[get,ih];by_cases h:i=j
     ·subst h; simp[Ne.symm h2]
     ·simp[h]
theorem o9.put {X:Nat->Prop} {φ:cZ} {w:World} {env:Env} {tmps:Array Value} (h:o9 X φ w env tmps) {d:Nat} (hd:d<tmps.size) {x:AV} {v:Value} (r:bF (Rd X φ w) φ x v) :
  o9 X φ w (put env d x) (tmps.setIfInBounds d v):=by
 intro i;rw[bD];by_cases hi:i=d
 ·subst hi;simp[hd,r]
 ·have:=h i;simpa[hi,Array.getElem?_setIfInBounds_ne (Ne.symm hi)] using this
theorem o9.nO {X:Nat->Prop} {φ φ':cZ} {w w':World} {env:Env} {tmps:Array Value} (h:o9 X φ w env tmps) (k:eW φ w φ' w'):o9 X φ' w' env tmps:=fun i=>k.rep (h i)

theorem Addr.add_add (a:Addr) (n m:Nat):(a.add n).add m=a.add (n+m):=by
 unfold Addr.add;by_cases hn:n=0
 ·subst hn; simp
 ·by_cases hm:m=0
  ·subst hm; simp[hn]
  ·simp[hn,hm,Nat.add_assoc]
theorem Addr.iq (g o n:Nat):Addr.add ⟨g,o,none⟩ n=⟨g,o+n,none⟩:=Addr.add_lit g o n
end Go.Am

/- The heap relation under the steps of the machine; freezing. -/
namespace Go.Am

theorem rS {H:Heap} {b:Nat} {cs:List AV} (h:aJ H b=some cs):H[b]?=some (some cs):=by
 unfold aJ at h;split at h
 ·rename_i h'; rw[h']; simpa using h
 ·cases h
theorem bV.at {X:Nat->Prop} {φ:cZ} {w:World} {H:Heap} (h:bV X φ w H) {b:Nat} {cs:List AV} (hb:aJ H b=some cs) :
  ∃ (g sz:Nat) (arr:Array Value) (o:Obj),φ[b]?=some (some (g,sz))/\w.heap[g]?=some o/\Vw o sz arr/\(cs.length<=arr.size/\(sz=0->cs.length=arr.size))/\¬ X g /\
   ∀ (i:Nat) (c:AV),cs[i]?=some c->∃u,arr[i]?=some u/\bF (Rd X φ w) φ c u:=h.live b cs (rS hb)
theorem bV.cat {X:Nat->Prop} {φ:cZ} {w:World} {H:Heap} (h:bV X φ w H) {b:Nat} {cs:List AV} (hb:aJ H b=some cs) (hs:∀g sz:Nat,φ[b]?=some (some (g,sz))->0<sz) :
  ∃ (g sz:Nat) (arr:Array Value) (e:TypeId),φ[b]?=some (some (g,sz))/\w.heap[g]?=some (.cells arr e (0,0))/\arr.size+1=sz/\cs.length<=arr.size/\¬ X g /\
   ∀ (i:Nat) (c:AV),cs[i]?=some c->∃u,arr[i]?=some u/\bF (Rd X φ w) φ c u:=by
 obtain⟨g,sz,arr,o,h1,h2,h3,h4,h5,h6⟩:=h.at hb;obtain⟨e,rfl,h7⟩:=h3.cells (hs g sz h1);exact⟨g,sz,arr,e,h1,h2,h7,h4.1,h5,h6⟩

theorem bX.nil (g:Nat):¬bX [] g:=fun⟨b,sz,h⟩=>by simp at h
theorem AH {φ:cZ} {p:Nat × Nat} {g:Nat} (h:bX (φ++[some p]) g):bX φ g\/g=p.1:=by
 obtain⟨b,sz,hb⟩:=h;by_cases bQ:b<φ.length
 ·rw[az bQ] at hb;exact .inl ⟨b,sz,hb⟩
 ·rw[aN (by omega)] at hb
  have h0:b-φ.length=0:=by
   have:=ak hb;simp at this; omega
  rw[h0] at hb;simp at hb;right; rw[hb]
theorem I4 {φ:cZ} {b g:Nat} (h:bX (φ.set b none) g):bX φ g:=by
 obtain⟨c,sz,hc⟩:=h;refine⟨c,sz,?_⟩;rw[aX] at hc;split at hc
 ·split at hc<;>simp at hc
 ·exact hc

theorem eW.of_same {φ:cZ} {w w':World} {ψ:cZ} (h:eW [] w ψ w'):eW φ w φ w':=
 ⟨h.os,h.tape,h.output,h.drawn,h.size,fun g hg ho=>⟨(h.keep g hg (bX.nil g)).1,ho⟩,.refl _⟩
theorem bV.of_same {X:Nat->Prop} {φ:cZ} {w w':World} {H:Heap} {ψ:cZ} (h:bV X φ w H) (a:eW [] w ψ w'):bV X φ w' H:=by
 have k:eW φ w φ w':=eW.of_same a;refine⟨h.len,fun g hg=>fQ (h.HK g hg) a.size,fun b cs hb=>?_,h.dead,h.inj⟩;obtain⟨g,sz,arr,e,h1,h2,h3,h4,h5,h6⟩:=h.live b cs hb;refine⟨g,sz,arr,e,h1,?_,h3,h4,h5,fun i c hc=>?_⟩
 ·rw[(a.keep g (fk.1 h2).1 (bX.nil g)).1]; exact h2
 ·obtain⟨u,hu,r⟩:=h6 i c hc;exact⟨u,hu,k.rep r⟩

theorem bV.aay {X:Nat->Prop} {φ:cZ} {w w':World} {H:Heap} (h:bV X φ w H) {o:Obj} {Iq:Nat} {arr:Array Value} (hV:Vw o Iq arr) (hw:w'.heap=w.heap.push o)
  (ho:w'.os=w.os) (ht:w'.tape=w.tape) (hp:w'.output=w.output) {cs:List AV} (hl:cs.length<=arr.size/\(Iq=0->cs.length=arr.size))
  (hc:∀(i:Nat) (c:AV),cs[i]?=some c->∃u,arr[i]?=some u/\bF (Rd X φ w) φ c u) (hd:w.drawn<=w'.drawn) :
  bV X (φ++[some (w.heap.size,Iq)]) w' (H++[some cs])/\eW φ w (φ++[some (w.heap.size,Iq)]) w':=by
 have own:∀g,bX φ g->g<w.heap.size:=by
  intro g ⟨b,sz,hb⟩;have bQ:b<H.length:=h.len▸ak hb;obtain⟨x,hx⟩:=aZ bQ;cases x with
  |none=>rw[h.dead b hx] at hb; simp at hb
  |some cs=>
    obtain⟨g',pe,arr,e,h1,h2,_⟩:=h.live b cs hx;rw[h1] at hb;simp at hb;rw[<-hb.1];exact (fk.1 h2).1
 have a:eW φ w (φ++[some (w.heap.size,Iq)]) w':=by
  refine⟨ho,ht,hp,hd,by rw[hw]; simp,fun g hg hn=>⟨?_,?_⟩,⟨by simp,fun b p hb hp=>?_⟩⟩
  ·rw[hw,zc,if_neg (by omega)]
  ·intro ho;rcases AH ho with h1|h1
   ·exact hn h1
   ·simp at h1; omega
  ·rwa [az hb] at hp
 refine⟨⟨by simp[h.len],fun g hg=>?_,fun b ds hb=>?_,fun b hb=>?_,fun b b' g sz pe h1 h2=>?_⟩,a⟩
 ·rw[hw]; have:=h.HK g hg; simp; omega
 ·by_cases bQ:b<H.length
  ·rw[az bQ] at hb;obtain⟨g,sz,ar,e',h1,h2,h3,h4,h5,h6⟩:=h.live b ds hb;refine⟨g,sz,ar,e',by rw[az (by rw[h.len]; exact bQ)]; exact h1,?_,h3,h4,h5,fun i c hc=>?_⟩
   ·rw[hw,zc,if_neg (by have:=(fk.1 h2).1; omega)]; exact h2
   ·obtain⟨u,hu,r⟩:=h6 i c hc;exact⟨u,hu,a.rep r⟩
  ·have iV:=ak hb;simp at iV;have N9:b=H.length:=by omega
   subst N9;simp at hb;subst hb;refine⟨w.heap.size,Iq,arr,o,by rw[<-h.len]; simp,by rw[hw]; simp,hV,hl,fun hx=>by have:=h.HK _ hx; omega,fun i c hi=>?_⟩;obtain⟨u,hu,r⟩:=hc i c hi;exact⟨u,hu,a.rep r⟩
 ·by_cases bQ:b<H.length
  ·rw[az bQ] at hb;rw[az (by rw[h.len]; exact bQ)];exact h.dead b hb
  ·have iV:=ak hb;simp at iV;have N9:b=H.length:=by omega
   subst N9;simp at hb
 ·have new:∀(b g sz:Nat),(φ++[some (w.heap.size,Iq)])[b]?=some (some (g,sz))->(b<φ.length/\φ[b]?=some (some (g,sz))/\g<w.heap.size)\/(b=φ.length/\g=w.heap.size):=by
   intro b g sz hb;by_cases bQ:b<φ.length
   ·rw[az bQ] at hb;exact .inl ⟨bQ,hb,own g ⟨b,sz,hb⟩⟩
   ·have iV:=ak hb;simp at iV;have N9:b=φ.length:=by omega
    subst N9;simp at hb;exact .inr ⟨rfl,hb.1.symm⟩
  rcases new b g sz h1 with⟨l1,e1,g1⟩|⟨l1,g1⟩<;>rcases new b' g pe h2 with⟨l2,e2,g2⟩|⟨l2,g2⟩
  ·exact h.inj b b' g sz pe e1 e2
  ·omega
  ·omega
  ·omega

theorem bV.alloc {X:Nat->Prop} {φ:cZ} {w w':World} {H:Heap} (h:bV X φ w H) {arr:Array Value} {e:TypeId} (hw:w'.heap=w.heap.push (.cells arr e (0,0)))
  (ho:w'.os=w.os) (ht:w'.tape=w.tape) (hp:w'.output=w.output) {cs:List AV} (hl:cs.length<=arr.size)
  (hc:∀(i:Nat) (c:AV),cs[i]?=some c->∃u,arr[i]?=some u/\bF (Rd X φ w) φ c u) (hd:w.drawn<=w'.drawn) :
  bV X (φ++[some (w.heap.size,arr.size+1)]) w' (H++[some cs])/\eW φ w (φ++[some (w.heap.size,arr.size+1)]) w':=
 h.aay (.inl ⟨e,rfl,rfl⟩) hw ho ht hp ⟨hl,fun z=>by omega⟩ hc hd
theorem bV.afZ {X:Nat->Prop} {φ:cZ} {w w':World} {H:Heap} (h:bV X φ w H) (hw:w'.heap=w.heap.push (.map #[] 0))
  (ho:w'.os=w.os) (ht:w'.tape=w.tape) (hp:w'.output=w.output) (hd:w.drawn<=w'.drawn) :
  bV X (φ++[some (w.heap.size,0)]) w' (H++[some []])/\eW φ w (φ++[some (w.heap.size,0)]) w':=
 h.aay (arr:=#[]) (.inr ⟨#[],0,rfl,rfl,by simp⟩) hw ho ht hp ⟨aI _,fun _=>rfl⟩ (fun i c hi=>by simp at hi) hd

theorem bV.store {X:Nat->Prop} {φ:cZ} {w w':World} {H:Heap} (h:bV X φ w H) {b g sz:Nat} {arr arr':Array Value} {e:TypeId} {cs':List AV}
  (jU:φ[b]?=some (some (g,sz))) (hg:w.heap[g]?=some (.cells arr e (0,0))) (mQ:arr.size+1=sz) (hs:arr'.size=arr.size) (hw:w'=w.setRow g arr') (hX:¬X g)
  (hl:cs'.length<=arr'.size) (hc:∀(i:Nat) (c:AV),cs'[i]?=some c->∃u,arr'[i]?=some u/\bF (Rd X φ w) φ c u) :
  bV X φ w' (H.set b (some cs'))/\eW φ w φ w':=by
 subst hw;have a:eW φ w φ (w.setRow g arr'):=⟨rfl,rfl,rfl,aI _,by simp,fun k _ ho=>⟨setRow_other w g k _ (fun e=>ho ⟨b,sz,e▸jU⟩),ho⟩,.refl _⟩;refine⟨⟨by simp[h.len],fun k hk=>by simpa using h.HK k hk,fun c ds hb=>?_,fun c hb=>?_,h.inj⟩,a⟩
 ·rw[aX] at hb;split at hb
  ·rename_i Dw;subst Dw;split at hb
   ·simp at hb;subst hb;refine⟨g,sz,arr',_,jU,setRow_heap w g arr arr' e _ hg,.inl ⟨e,rfl,by omega⟩,⟨by omega,fun z=>by omega⟩,hX,fun i c hi=>?_⟩;obtain⟨u,hu,r⟩:=hc i c hi;exact⟨u,hu,a.rep r⟩
   ·simp at hb
  ·rename_i Dw;obtain⟨g',pe,ar,e',h1,h2,h3,h4,h5,h6⟩:=h.live c ds hb;refine⟨g',pe,ar,e',h1,?_,h3,h4,h5,fun i c hi=>?_⟩
   ·rw[setRow_other w g g' _ (fun eq=>Dw (h.inj b c g sz pe jU (eq▸h1)))]; exact h2
   ·obtain⟨u,hu,r⟩:=h6 i c hi;exact⟨u,hu,a.rep r⟩
 ·rw[aX] at hb;split at hb
  ·split at hb<;>simp at hb
  ·exact h.dead c hb

theorem bV.Xs {X:Nat->Prop} {φ:cZ} {w w':World} {H:Heap} (h:bV X φ w H) {b g:Nat} {es':Array MapEntry} {clk':Nat} {cs':List AV}
  (jU:φ[b]?=some (some (g,0))) (hw1:w'.heap[g]?=some (.map es' clk')) (hw2:∀k,k≠g->w'.heap[k]?=w.heap[k]?) (mQ:w'.heap.size=w.heap.size)
  (ho:w'.os=w.os) (ht:w'.tape=w.tape) (hp:w'.output=w.output) (hd:w.drawn<=w'.drawn) (hX:¬X g)
  (hl:cs'.length=es'.size) (hc:∀(i:Nat) (c:AV),cs'[i]?=some c->∃u,(es'.map fun e=>Value.tuple #[e.key,e.val])[i]?=some u/\bF (Rd X φ w) φ c u) :
  bV X φ w' (H.set b (some cs'))/\eW φ w φ w':=by
 have a:eW φ w φ w':=⟨ho,ht,hp,hd,by omega,fun k _ hk=>⟨hw2 k (fun e=>hk ⟨b,0,e▸jU⟩),hk⟩,.refl _⟩;refine⟨⟨by simp[h.len],fun k hk=>by rw[mQ]; exact h.HK k hk,fun c ds hb=>?_,fun c hb=>?_,h.inj⟩,a⟩
 ·rw[aX] at hb;split at hb
  ·rename_i Dw;subst Dw;split at hb
   ·simp at hb;subst hb;refine⟨g,0,_,_,jU,hw1,.inr ⟨es',clk',rfl,rfl,rfl⟩,⟨by simp[hl],fun z=>by simp[hl]⟩,hX,fun i c hi=>?_⟩;obtain⟨u,hu,r⟩:=hc i c hi;exact⟨u,hu,a.rep r⟩
   ·simp at hb
  ·rename_i Dw;obtain⟨g',pe,ar,e',h1,h2,h3,h4,h5,h6⟩:=h.live c ds hb;refine⟨g',pe,ar,e',h1,?_,h3,h4,h5,fun i c hi=>?_⟩
   ·rw[hw2 g' (fun eq=>Dw (h.inj b c g 0 pe jU (eq▸h1)))]; exact h2
   ·obtain⟨u,hu,r⟩:=h6 i c hi;exact⟨u,hu,a.rep r⟩
 ·rw[aX] at hb;split at hb
  ·split at hb<;>simp at hb
  ·exact h.dead c hb

theorem bV.Zg {X:Nat->Prop} {φ:cZ} {w:World} {H:Heap} (h:bV X φ w H) (b:Nat):bV X (φ.set b none) w (H.set b none)/\eW φ w (φ.set b none) w:=by
 have a:eW φ w (φ.set b none) w:=by
  refine⟨rfl,rfl,rfl,aI _,aI _,fun g _ ho=>⟨rfl,fun hx=>ho (I4 hx)⟩,⟨by simp,fun c p hc hp=>?_⟩⟩;rw[aX] at hp;split at hp
  ·split at hp<;>simp at hp
  ·exact hp
 refine⟨⟨by simp[h.len],h.HK,fun c ds hb=>?_,fun c hb=>?_,fun c c' g sz pe h1 h2=>?_⟩,a⟩
 ·rw[aX] at hb;split at hb
  ·split at hb<;>simp at hb
  ·rename_i Dw;obtain⟨g',pe,ar,e',h1,h2,h3,h4,h5,h6⟩:=h.live c ds hb;refine⟨g',pe,ar,e',?_,h2,h3,h4,h5,fun i c hi=>?_⟩
   ·rw[aX,if_neg Dw]; exact h1
   ·obtain⟨u,hu,r⟩:=h6 i c hi;exact⟨u,hu,a.rep r⟩
 ·rw[aX] at hb ⊢;split at hb
  ·rename_i Dw;rw[if_pos Dw];split at hb
   ·rename_i bQ;rw[if_pos (by rw[h.len]; exact bQ)]
   ·simp at hb
  ·rename_i Dw;rw[if_neg Dw];exact h.dead c hb
 ·have un:∀(c g sz:Nat),(φ.set b none)[c]?=some (some (g,sz))->φ[c]?=some (some (g,sz)):=by
   intro c g sz hc;rw[aX] at hc;split at hc
   ·split at hc<;>simp at hc
   ·exact hc
  exact h.inj c c' g sz pe (un c g sz h1) (un c' g pe h2)
def NI:cZ->List Nat->cZ
 |φ,[]=>φ
 |φ,b::r=>NI (φ.set b none) r
theorem bV.kill {X:Nat->Prop} {w:World}:∀(bs:List Nat) {φ:cZ} {H:Heap},bV X φ w H->bV X (NI φ bs) w (kill H bs)/\eW φ w (NI φ bs) w
 |[],φ,H,h=>⟨h,.refl _ _⟩
 |b::r,φ,H,h=>by
   obtain⟨h1,a1⟩:=h.Zg b;obtain⟨h2,a2⟩:=bV.kill r h1;exact⟨h2,a1.trans a2⟩
theorem Jm:∀(bs:List Nat) (φ:cZ) (c:Nat) (p:Nat × Nat),(NI φ bs)[c]?=some (some p)->φ[c]?=some (some p)/\c∉bs
 |[],φ,c,p,h=>⟨h,by simp⟩
 |b::r,φ,c,p,h=>by
   obtain⟨h1,h2⟩:=Jm r (φ.set b none) c p h;rw[aX] at h1;split at h1
   ·split at h1<;>simp at h1
   ·rename_i Dw;exact⟨h1,by simp[h2]; exact fun e=>Dw e.symm⟩

theorem bV.move {X:Nat->Prop} {φ:cZ} {w w':World} {H:Heap} (h:bV X φ w H) {b g sz:Nat} {arr arr':Array Value} {e:TypeId} {cs':List AV}
  (jU:φ[b]?=some (some (g,sz))) (hg:w.heap[g]?=some (.cells arr e (0,0))) (mQ:arr.size+1=sz) (hs:arr'.size=arr.size) (hw:w'=w.setRow g arr') (hX:¬X g)
  (hl:cs'.length<=arr'.size) (hc:∀(i:Nat) (c:AV),cs'[i]?=some c->∃u,arr'[i]?=some u/\bF (Rd X φ w) φ c u) :
  bV X (φ.set b none++[some (g,sz)]) w' (H.set b none++[some cs'])/\eW φ w (φ.set b none++[some (g,sz)]) w':=by
 subst hw;have Uh:b<φ.length:=ak jU
 have look:∀(c:Nat) (p:Nat × Nat),(φ.set b none++[some (g,sz)])[c]?=some (some p)->(c<φ.length/\c≠b/\φ[c]?=some (some p))\/(c=φ.length/\p=(g,sz)):=by
  intro c p hc;by_cases bQ:c<φ.length
  ·rw[az (by simpa using bQ),aX] at hc;split at hc
   ·simp_all
   ·rename_i Dw; exact .inl ⟨bQ,fun e=>Dw e.symm,hc⟩
  ·have iV:=ak hc;simp at iV;have N9:c=φ.length:=by omega
   subst N9;rw[aN (by simp)] at hc;simp at hc;exact .inr ⟨rfl,hc.symm⟩
 have a:eW φ w (φ.set b none++[some (g,sz)]) (w.setRow g arr'):=by
  refine⟨rfl,rfl,rfl,aI _,by simp,fun k _ ho=>⟨setRow_other w g k _ (fun e=>ho ⟨b,sz,e▸jU⟩),?_⟩,⟨by simp,fun c p hc hp=>?_⟩⟩
  ·intro⟨c,s,hc⟩;rcases look c _ hc with⟨_,_,h1⟩|⟨_,h1⟩
   ·exact ho ⟨c,s,h1⟩
   ·simp at h1; exact ho ⟨b,sz,h1.1▸jU⟩
  ·rcases look c p hp with⟨_,_,h1⟩|⟨h1,_⟩
   ·exact h1
   ·omega
 refine⟨⟨by simp[h.len],fun k hk=>by simpa using h.HK k hk,fun c ds hb=>?_,fun c hb=>?_,fun c c' k s s' h1 h2=>?_⟩,a⟩
 ·by_cases bQ:c<H.length
  ·rw[az (by simpa using bQ),aX] at hb;split at hb
   ·split at hb<;>simp at hb
   ·rename_i Dw;obtain⟨g',pe,ar,e',h1,h2,h3,h4,h5,h6⟩:=h.live c ds hb;refine⟨g',pe,ar,e',?_,?_,h3,h4,h5,fun i c hi=>?_⟩
    ·rw[az (by simp[h.len,bQ]),aX,if_neg Dw]; exact h1
    ·rw[setRow_other w g g' _ (fun eq=>Dw (h.inj b c g sz pe jU (eq▸h1)))]; exact h2
    ·obtain⟨u,hu,r⟩:=h6 i c hi;exact⟨u,hu,a.rep r⟩
  ·have iV:=ak hb;simp at iV;have N9:c=H.length:=by omega
   subst N9;rw[aN (by simp)] at hb;simp at hb;subst hb;refine⟨g,sz,arr',_,?_,setRow_heap w g arr arr' e _ hg,.inl ⟨e,rfl,by omega⟩,⟨by omega,fun z=>by omega⟩,hX,fun i c hi=>?_⟩
   ·rw[aN (by simp[h.len])]; simp[h.len]
   ·obtain⟨u,hu,r⟩:=hc i c hi;exact⟨u,hu,a.rep r⟩
 ·by_cases bQ:c<H.length
  ·rw[az (by simpa using bQ),aX] at hb;rw[az (by simp[h.len,bQ]),aX];split at hb
   ·rename_i Dw;rw[if_pos Dw,if_pos (by omega)]
   ·rename_i Dw;rw[if_neg Dw]; exact h.dead c hb
  ·have iV:=ak hb;simp at iV;have N9:c=H.length:=by omega
   subst N9;rw[aN (by simp)] at hb;simp at hb
 ·rcases look c _ h1 with⟨l1,n1,e1⟩|⟨l1,e1⟩<;>rcases look c' _ h2 with⟨l2,n2,e2⟩|⟨l2,e2⟩
  ·exact h.inj c c' k s s' e1 e2
  ·simp at e2; exact absurd (h.inj c b k s sz e1 (e2.1▸jU)) n1
  ·simp at e1; exact absurd (h.inj c' b k s' sz e2 (e1.1▸jU)) n2
  ·omega

theorem zU {n:Nat}:∀{H:Heap},zV n H=true->∀(b:Nat) (cs:List AV),H[b]?=some (some cs)->nQ n cs=true
 |[],_,b,cs,hb=>by simp at hb
 |none::r,h,b,cs,hb=>by
   cases b with
   |zero=>simp at hb
   |succ b=>simp at hb; exact zU (H:=r) (by simpa[zV] using h) b cs hb
 |some ds::r,h,b,cs,hb=>by
   simp only[zV,ae] at h;cases b with
   |zero=>simp at hb; subst hb; exact h.1
   |succ b=>simp at hb; exact zU (H:=r) h.2 b cs hb
theorem FU {φ:cZ} {n g:Nat} (h:bX (φ.take n) g):bX φ g:=by
 obtain⟨b,sz,hb⟩:=h;rw[bE] at hb;split at hb
 ·exact⟨b,sz,hb⟩
 ·simp at hb
theorem RS {X:Nat->Prop} {φ:cZ} {w:World} {n:Nat}:∀a u,Rd X φ w a u->Rd X (φ.take n) w a u:=fun _ _ ⟨h1,h2,h3⟩=>⟨h1,fun h=>h2 (FU h),h3⟩
theorem bV.take {X:Nat->Prop} {φ:cZ} {w:World} {H:Heap} (h:bV X φ w H) {n:Nat} (hn:n<=H.length) (cX:zV n (H.take n)=true):bV X (φ.take n) w (H.take n):=by
 refine⟨by simp[h.len],h.HK,fun b cs hb=>?_,fun b hb=>?_,fun b b' g sz pe h1 h2=>?_⟩
 ·have hr:=zU cX b cs hb;have bQ:b<n:=by have:=ak hb; simp at this; omega
  rw[aQ bQ] at hb;obtain⟨g,sz,ar,e,h1,h2,h3,h4,h5,h6⟩:=h.live b cs hb;refine⟨g,sz,ar,e,by rw[aQ bQ]; exact h1,h2,h3,h4,h5,fun i c hi=>?_⟩;obtain⟨u,hu,r⟩:=h6 i c hi;exact⟨u,hu,(r.take (oh hr i c hi)).mono RS (.refl _)⟩
 ·have bQ:b<n:=by have:=ak hb; simp at this; omega
  rw[aQ bQ] at hb ⊢;exact h.dead b hb
 ·rw[bE] at h1 h2;split at h1<;>split at h2<;>first|exact h.inj b b' g sz pe h1 h2|(first|simp at h1|simp at h2)
theorem eW.take {φ φ':cZ} {w w':World} (h:eW φ w φ' w'):eW φ w (φ'.take φ.length) w':=
 ⟨h.os,h.tape,h.output,h.drawn,h.size,fun g hg ho=>⟨(h.keep g hg ho).1,fun hx=>(h.keep g hg ho).2 (FU hx)⟩,
  ⟨by rw[bj]; have:=h.Tj.len; omega,fun b p hb hp=>h.Tj.HQ b p hb (by rwa [aQ hb] at hp)⟩⟩

/-! Freezing -/
theorem tx {f:AV->Option (AV × List Nat)}:∀{xs ys:List AV} {bs:List Nat},B6 f xs=some (ys,bs) ->
  ys.length=xs.length/\∀ (i:Nat) (x:AV),xs[i]?=some x->∃y b,f x=some (y,b)/\ys[i]?=some y/\∀ c∈b,c∈bs
 |[],ys,bs,h=>by simp[B6] at h; obtain⟨rfl,rfl⟩:=h; exact⟨rfl,fun i x hx=>by simp at hx⟩
 |x::r,ys,bs,h=>by
   simp only[B6] at h;split at h
   ·rename_i y b Ak bs' h1 h2;simp at h;obtain⟨rfl,rfl⟩:=h;obtain⟨hl,hm⟩:=tx h2;refine⟨by simp[hl],fun i z hz=>?_⟩;cases i with
    |zero=>simp at hz; subst hz; exact⟨y,b,h1,by simp,fun c hc=>by simp[hc]⟩
    |succ i=>
      simp at hz;obtain⟨y',b',e1,e2,e3⟩:=hm i z hz;exact⟨y',b',e1,by simpa using e2,fun c hc=>by simp[e3 c hc]⟩
   ·cases h
theorem tF (l:List AV):(el l).cells=l:=by
 unfold el;split<;>first|rfl|skip
 rename_i x hx;cases x<;>first|rfl|(exact absurd rfl (hx _))
theorem GF (k:Nat):∀(n:Nat) (ys:List AV),n*k<=ys.length->(KW k n ys).length=n/\∀ (i:Nat) (x:AV),(KW k n ys)[i]?=some x->x.cells=(ys.drop (i*k)).take k/\i<n
 |0,ys,_=>⟨rfl,fun i x hx=>by simp[KW] at hx⟩
 |n+1,ys,h=>by
   have h':n*k<=(ys.drop k).length:=by rw[dT]; rw[ct] at h; omega
   obtain⟨hl,hm⟩:=GF k n (ys.drop k) h';refine⟨by simp[KW,hl],fun i x hx=>?_⟩;cases i with
   |zero=>simp[KW] at hx; subst hx; rw[tF]; simp
   |succ i=>
     simp[KW] at hx;obtain⟨e1,e2⟩:=hm i x hx;refine⟨?_,by omega⟩;rw[e1,List.drop_drop];congr 2;rw[ct]; omega
theorem gS {w:World} {g:Nat} {arr:Array Value} {e:TypeId} {fr:Nat × Nat} (h:w.heap[g]?=some (.cells arr e fr)) (o:Nat):w.cell? ⟨g,o,none⟩=arr[o]?:=cell_of_row w g o arr e fr h

theorem Em {X:Nat->Prop} {φ:cZ} {w:World} {H:Heap} (h:bV X φ w H) {R:Addr->Value->Prop} (hR:∀a u,Rd X φ w a u->R a u) :
  ∀ (n:Nat) (x y:AV) (v:Value) (bs:List Nat),Cw H n x=some (y,bs) ->
   (∀b∈bs,∀g sz:Nat,φ[b]?=some (some (g,sz))->∀o u,w.cell? ⟨g,o,none⟩=some u->R ⟨g,o,none⟩ u)->bF (Rd X φ w) φ x v->bF R [] y v
 |0,_,_,_,_,hf,_,_=>by simp[Cw] at hf
 |n+1,x,y,v,bs,hf,hb,r=>by
   have ih:=Em h hR n
   have many:∀{cs ys:List AV} {bs':List Nat} {vs:Array Value},B6 (Cw H n) cs=some (ys,bs')->(∀b∈bs',b∈bs)->cs.length=vs.size ->
     (∀(i:Nat) (c:AV) (v:Value),cs[i]?=some c->vs[i]?=some v->bF (Rd X φ w) φ c v) ->
     ys.length=vs.size/\∀ (i:Nat) (c:AV) (v:Value),ys[i]?=some c->vs[i]?=some v->bF R [] c v:=by
    intro cs ys bs' vs hm Cl hl hr;obtain⟨Wm,Qy⟩:=tx hm;refine⟨by omega,fun i c v hc hv=>?_⟩;obtain⟨x,hx⟩:=aZ (l:=cs) (i:=i) (by have:=ak hc; omega);obtain⟨y,b,e1,e2,e3⟩:=Qy i x hx;rw[e2] at hc;simp at hc;subst hc;exact ih x _ v b e1 (fun b' iV=>hb b' (Cl _ (e3 b' iV))) (hr i x v hx hv)
   cases x with
   |ptr b off=>
     simp only[Cw] at hf;split at hf
     ·rename_i cs dG;split at hf
      ·rename_i ys bs' hm;simp at hf;obtain⟨rfl,rfl⟩:=hf;obtain⟨Wm,Qy⟩:=tx hm;cases r with
       |ptr _ _ _ a Uh ha=>
         obtain⟨g,sz,arr,e,h1,h2,h3,h4,h5,h6⟩:=h.cat dG fun g sz hg=>(ha g sz hg).2;obtain⟨rfl,_⟩:=ha g sz h1;refine .dh _ _ _ (fun j=>arr[off+j]?.getD undef) (fun j c hc=>?_) (fun j c hc=>?_)
         ·obtain⟨x,hx⟩:=aZ (l:=cs.drop off) (i:=j) (by have:=ak hc; omega);rw[aW] at hx;obtain⟨u,hu,_⟩:=h6 _ _ hx;rw[Addr.iq];refine hb b (by simp) g sz h1 _ _ ?_;rw[gS h2,hu]; simp
         ·obtain⟨x,hx⟩:=aZ (l:=cs.drop off) (i:=j) (by have:=ak hc; omega);obtain⟨y,b',e1,e2,e3⟩:=Qy j x hx;rw[e2] at hc;simp at hc;subst hc;rw[aW] at hx;obtain⟨u,hu,r⟩:=h6 _ _ hx;refine ih x _ _ b' e1 (fun c hc=>hb c (by simp[e3 c hc])) ?_;rw[hu]; exact r
      ·cases hf
     ·cases hf
   |sl k b off len=>
     simp only[Cw] at hf;split at hf
     ·rename_i cs dG;split at hf
      ·rename_i oV;split at hf
       ·rename_i ys bs' hm;simp at hf;obtain⟨rfl,rfl⟩:=hf;obtain⟨Wm,Qy⟩:=tx hm;have HG:ys.length=len*k:=by rw[Wm,bj,dT]; omega
        obtain⟨gl,gm⟩:=GF k len ys (by omega);cases r with
        |sl _ _ _ _ _ a cap Uh hc ha=>
          obtain⟨g,sz,arr,e,h1,h2,h3,h4,h5,h6⟩:=h.cat dG fun g sz hg=>by have:=(ha g sz hg).2; omega
          obtain⟨Oc,iP⟩:=ha g sz h1;by_cases GC:0<cap
          case neg=>
           have N0:len=0:=by omega
           subst N0;refine .vO _ _ _ _ _ _ (fun _ _=>undef) gl.symm hc (fun x hx=>?_) (fun i j x c hx hc=>?_) (fun i j x c hx hc=>?_)
           all_goals simp[KW] at hx
          obtain rfl:=Oc GC
          have key:∀(i j:Nat) (x c:AV),(KW k len ys)[i]?=some x->x.cells[j]?=some c->i*k+j<len*k/\j<k/\ys[i*k+j]?=some c:=by
           intro i j x c hx hc;obtain⟨e1,e2⟩:=gm i x hx;rw[e1,bE] at hc;split at hc
           ·rename_i hj;rw[aW] at hc;have:=ak hc;exact⟨by omega,hj,hc⟩
           ·cases hc
          refine .vO _ _ _ _ _ _ (fun i j=>arr[off+(i*k+j)]?.getD undef) gl.symm hc (fun x hx=>?_) (fun i j x c hx hc=>?_) (fun i j x c hx hc=>?_)
          ·obtain⟨i,hi⟩:=bz hx;obtain⟨e1,e2⟩:=gm i x hi;rw[e1,bj,dT,HG];have:i*k+k<=len*k:=by rw[<-Nat.succ_mul]; exact bN _ e2
           omega
          ·obtain⟨k1,k2,k3⟩:=key i j x c hx hc;obtain⟨z,hz⟩:=aZ (l:=(cs.drop off).take (len*k)) (i:=i*k+j) (by have:=ak k3; omega);rw[aQ k1,aW] at hz;obtain⟨u,hu,_⟩:=h6 _ _ hz;rw[Addr.iq];refine hb b (by simp) g sz h1 _ _ ?_;rw[gS h2,hu]; simp
          ·obtain⟨k1,k2,k3⟩:=key i j x c hx hc;obtain⟨z,hz⟩:=aZ (l:=(cs.drop off).take (len*k)) (i:=i*k+j) (by have:=ak k3; omega);obtain⟨y,b',e1,e2,e3⟩:=Qy _ z hz;rw[e2] at k3;simp at k3;subst k3;rw[aQ k1,aW] at hz;obtain⟨u,hu,r⟩:=h6 _ _ hz;refine ih z _ _ b' e1 (fun c hc=>hb c (by simp[e3 c hc])) ?_;rw[hu]; exact r
       ·cases hf
      ·cases hf
     ·cases hf
   |agg cs=>
     simp only[Cw] at hf;split at hf
     ·rename_i ys bs' hm;simp at hf;obtain⟨rfl,rfl⟩:=hf;cases r with
      |agg _ _ vs hl hr=>
        obtain⟨l1,r1⟩:=many hm (fun _ h=>h) hl hr;exact .agg _ _ _ l1 r1
     ·cases hf
   |dF cs=>
     simp only[Cw] at hf;split at hf
     ·rename_i ys bs' hm;simp at hf;obtain⟨rfl,rfl⟩:=hf;cases r with
      |dF _ _ vs hl hr=>
        obtain⟨l1,r1⟩:=many hm (fun _ h=>h) hl hr;exact .dF _ _ _ l1 r1
     ·cases hf
   |func f as cs=>
     simp only[Cw] at hf;split at hf
     ·rename_i ys bs1 zs bs2 hm0 hm1 hm2;simp at hf;obtain⟨rfl,rfl⟩:=hf;cases r with
      |func _ _ _ va _ vb hy zT zS ha iV=>
        obtain⟨l1,r1⟩:=many hm1 (fun _ h=>by simp[h]) zT ha;obtain⟨l2,r2⟩:=many hm2 (fun _ h=>by simp[h]) zS iV;exact .func _ _ _ _ _ _ hy l1 l2 r1 r2
      |zC=>cases hm0
     ·cases hf
   |_=>
     simp only[Cw,af,aB] at hf;obtain⟨rfl,rfl⟩:=hf;exact (r.dC rfl []).mono hR (.refl _)
end Go.Am

/- The check that ties compact operations to the operations of the dump. -/
namespace Go.Am

def GZ:Value->AV->Bool
 |.bool a,.bool b=>a == b
 |.int k n,.int k' m=>decide (k=k')&&decide (n=m)
 |.slice none 0 0,.dp=>true
 |.pointer none,.fo=>true
 |.nilFunc,.fv=>true
 |.string a,.str b=>decide (a=b)
 |.tuple vs,.undef=>vs.isEmpty
 |_,_=>false
def rL:List Value->List AV->Bool
 |[],[]=>true
 |v::r,x::s=>GZ v x&&rL r s
 |_,_=>false
def chkV:Value->AV->Bool
 |.agg cs,.agg ds=>rL cs.toList ds
 |v,x=>GZ v x
def cM:Operand->E->Bool
 |.tmp t,.t i=>decide (t=i)
 |.const v,.k x=>chkV v x
 |.func f,.k (.func (.func g) [] [])=>decide (f=g)
 |.global g,.g i=>decide (g=i)
 |_,_=>false
def iz:List Operand->List E->Bool
 |[],[]=>true
 |x::r,y::s=>cM x y&&iz r s
 |_,_=>false
def rP:Option Operand->Option E->Bool
 |none,none=>true
 |some x,some y=>cM x y
 |_,_=>false
def rM (place:Nat->Option (Nat × Nat)):List (Nat × Operand)->List (Nat × Nat × E)->Bool
 |[],[]=>true
 |(i,x)::r,(off,sz,y)::s=>decide (place i=some (off,sz))&&cM x y&&rM place r s
 |_,_=>false

def kD (P:Program) (t:TypeId):Option (Option Nat):=
 match P.underlying t with
 |some (.struct _)|some (.array _ _)=>match P.info? t with
   |some i=>some (some i.size)
   |none=>none
 |some _=>some none
 |none=>none
def nk (P:Program) (t:TypeId) (k:Nat):Bool:=
 match P.info? t with
 |some i=>decide (i.size=k)
 |none=>false
def pk (P:Program) (t:TypeId) (zs:List AV):Bool:=
 match P.info? t with
 |some i=>match i.zero with
   |some z=>rL z.cells.toList zs&&bq zs
   |none=>false
 |none=>false
def im (P:Program) (t:TypeId) (k:Nat):Bool:=
 match P.underlying t with
 |some (.slice e)=>match P.info? e with
   |some i=>decide (i.size=k)&&decide (0<k)&&decide (i.bytes<=1024)&&(match i.zero with
     |some z=>decide (z.cells.size=k)
     |none=>false)
   |none=>false
 |_=>false
def gQ (P:Program) (t:TypeId) (zs:List AV):Bool:=
 match P.underlying t with
 |some (.slice e)=>pk P e zs
 |_=>false
def si (P:Program) (fs:Array Field) (i:Nat):Option (Nat × Nat):=
 match fs[i]? with
 |some f=>match P.info? f.type with
   |some j=>some (f.offset,j.size)
   |none=>none
 |none=>none
def sX (P:Program):Nat->List Field->List Bool->Bool
 |_,[],[]=>true
 | o, f :: r, b :: s => decide (f.offset = o) && decide (f.name ≠ "_") && (match P.underlying f.type with
   |some (.int _)=>b
   |some .bool=>!b
   |_=>false)&&sX P (o+1) r s
 |_,_,_=>false
def G3 (P:Program) (t:TypeId):Et->Bool
 |.bool=>match P.underlying t with
   |some .bool=>true
   |_=>false
 |.Qg=>match P.underlying t with
   |some (.slice _)=>true
   |_=>false
 |.F4=>match P.underlying t with
   |some (.pointer _)=>true
   |_=>false
 |.nfn=>match P.underlying t with
   |some (.func _ _ _)=>true
   |_=>false
 |.str l=>match P.underlying t with
   |some (.struct fs)=>!P.stoodInHeld t&&!P.eqGuardType P.depth t&&sX P 0 fs.toList l
   |_=>false
def J4 (P:Program) (t:TypeId) (z:AV):Bool:=
 match P.info? t with
 |some i=>match i.zero with
   |some v=>GZ v z
   |none=>false
 |none=>false
def rO (P:Program) (t:TypeId):Kt->Bool
 |.Zf k=>match P.underlying t with
   |some (.int k')=>decide (k=k')
   |_=>false
 |.zM=>match P.underlying t with
   |some .string=>true
   |_=>false
 |.kst l=>match P.underlying t with
   |some (.struct fs)=>!P.stoodInHeld t&&!P.eqGuardType P.depth t&&sX P 0 fs.toList l
   |_=>false
def isSlice (P:Program) (t:TypeId):Bool:=
 match P.underlying t with
 |some (.slice _)=>true
 |_=>false

def eqOp:BinOp->Bool->Bool
 |.eql,ng=>!ng
 |.neq,ng=>ng
 |_,_=>false
def cK (P:Program):Op->Kd->Bool
 |.move x,.mv y=>cM x y
 |.assign x,.mv y=>cM x y
 |.pick c a b,.pick c' a' b'=>cM c c'&&cM a a'&&cM b b'
 |.alloc t,.new zs=>pk P t zs
 |.box _ x,.box y=>cM x y
 |.build t ps,.build zs qs=>pk P t zs&&(match P.underlying t with
   |some (.struct fs)=>(fs.toList.all fun f=>(P.info? f.type).isSome)&&rM (si P fs) ps.toList qs
   |some (.array _ e)=>match P.info? e with
     |some i=>rM (fun j=>some (j*i.size,i.size)) ps.toList qs
     |none=>false
   |_=>false)
 |.buildSlice t n ps,.dV k m zs qs=>decide (n=m)&&im P t k&&gQ P t zs&&decide (n*k<=16777216)&&rM (fun j=>some (j*k,k)) ps.toList qs
 |.load t a,.ld ag y=>decide (kD P t=some ag)&&cM a y
 |.store t a v,.st k b y=>nk P t k&&cM a b&&cM v y
 |.nilCheck x,.mB y=>cM x y
 |.binOp op _ x y _,.bin op' x' y'=>decide (op=op')&&cM x x'&&cM y y'
 |.binOp op t x y _,.eq ng et x' y'=>eqOp op ng&&G3 P t et&&cM x x'&&cM y y'
 |.unOp op _ x,.un op' y=>decide (op=op')&&cM x y
 |.convert s d x,.LF k y=>(P.underlying s).isSome&&(match P.underlying d with
   |some (.int k')=>decide (k=k')
   |_=>false)&&cM x y
 |.makeFunc fn as bs,.O7 fn' cs ds=>decide (fn=fn')&&iz as.toList cs&&iz bs.toList ds
 |.makeSlice t l c,.Kx k zs l' c'=>im P t k&&gQ P t zs&&cM l l'&&cM c c'
 |.slice t x lo hi none,.EN k y lo' ye=>im P t k&&cM x y&&rP lo lo'&&rP hi ye
 |.fieldAddr s x f,.yn off y=>(match P.underlying s with
   |some (.struct fs)=>match fs[f]? with
     |some fd=>decide (fd.offset=off)&&(match P.info? fd.type with
       |some i=>decide (i.size≠0)
       |none=>false)
     |none=>false
   |_=>false)&&cM x y
 |.field s x f,.Wy off ag y=>(match P.underlying s with
   |some (.struct fs)=>match fs[f]? with
     |some fd=>decide (fd.offset=off)&&decide (kD P fd.type=some ag)
     |none=>false
   |_=>false)&&cM x y
 |.indexAddr t x i,.sU k y j=>im P t k&&cM x y&&cM i j
 |.indexAddr t x i,.DU n k y j=>(match P.underlying t with
   |some (.array n' e)=>decide (n=n')&&nk P e k
   |_=>false)&&cM x y&&cM i j
 |.index t x i,.ix n k ag y j=>(match P.underlying t with
   |some (.array n' e)=>decide (n=n')&&nk P e k&&decide (kD P e=some ag)
   |_=>false)&&cM x y&&cM i j
 |.index t (.const (.string s)) i,.We tab j=>(match P.underlying t with
   |some .string=>true
   |_=>false)&&decide (s.data.toList.map (·.toNat)=tab)&&cM i j
 |.call { callee:=.builtin .clear,args,argTypes },.UC k zs x=>(match args.toList,argTypes.toList with
   |[x'],[t]=>im P t k&&gQ P t zs&&cM x' x
   |_,_=>false)
 |.extract x i,.ext j y=>decide (i=j)&&cM x y
 |.call { callee:=.value (.func f),args,argTypes:=_ },.call g xs=>decide (f=g)&&iz args.toList xs
 |.call { callee:=.value x,args,argTypes:=_ },.iR y xs=>cM x y&&iz args.toList xs
 |.call { callee:=.builtin .len,args,argTypes },.len y=>(match args.toList,argTypes.toList with
   |[x],[t]=>isSlice P t&&cM x y
   |_,_=>false)
 |.call { callee:=.builtin .append,args,argTypes },.app k x y=>(match args.toList,argTypes.toList with
   |[x',y'],[t,t']=>decide (t=t')&&im P t k&&cM x' x&&cM y' y
   |_,_=>false)
 |.call { callee:=.builtin .min,args,argTypes:=_ },.min xs=>iz args.toList xs
 |.call { callee:=.builtin .max,args,argTypes:=_ },.max xs=>iz args.toList xs
 |.slice t x none hi none,.Ic n y ye=>(match P.underlying t with
   |some (.array n' e)=>decide (n=n')&&nk P e 1
   |_=>false)&&(cM x y&&rP hi ye)
 |.call { callee:=.builtin .copy,args,argTypes },.copy k x y=>(match args.toList,argTypes.toList with
   |[x',y'],[t,_]=>im P t k&&cM x' x&&cM y' y
   |_,_=>false)
 |.makeMap _ none,.B4=>true
 |.lookup t x i ok,.yH kt ok' z y k=>decide (ok=ok')&&(match P.underlying t with
   |some (.map key el)=>rO P key kt&&J4 P el z
   |_=>false)&&cM x y&&cM i k
 |.mapUpdate t m i v,.zB kt y k u=>(match P.underlying t with
   |some (.map key _)=>rO P key kt
   |_=>false)&&cM m y&&cM i k&&cM v u
 |_,.bad=>true
 |_,_=>false

def K8 (P:Program) (N:Nat) (ops:Array Oper) (o:Oper) (q:O):Bool:=
 decide (o.dst=q.dst)&&(match q.dst with
  |some d=>decide (d<N)
  |none=>true)&&(match o.guard,q.guard with
  |none,none=>true
  |some (j,want),some (g,acN)=>decide ((ops[j]?).bind (·.dst)=some g)&&decide (want=acN)
  |_,_=>false)&&cK P o.op q.kd
def adU (P:Program) (N:Nat) (ops:Array Oper):List Oper->List O->Bool
 |[],[]=>true
 |o::r,q::s=>K8 P N ops o q&&adU P N ops r s
 |_,_=>false
def iY (x y:O):Bool:=
 (match x.dst with
  |some d=>!mem d y.reads&&decide (y.dst≠some d)
  |none=>true) &&
 (match y.dst with
  |some d=>!mem d x.reads
  |none=>true)
def jH (i j:Nat):List (Nat × Nat)->Bool
 |[]=>false
 |p::r=>(decide (p.1=i)&&decide (p.2=j))||jH i j r
def direct (y:Oper):List Nat:=(y.after.toList.filter fun e=>Region.binds .any e).map (·.on)
def dedup:List Nat->List Nat
 |[]=>[]
 |x::r=>if mem x (dedup r) then dedup r else x::dedup r
def Hm (BA:List (List Nat)) (y:Oper):List Nat:=dedup (direct y++(dedup (direct y)).flatMap fun i=>BA.getD i [])
def acu (un:List (Nat × Nat)) (i j:Nat) (x:O) (ys:List Nat) (q:O):Bool:=mem i ys||(iY x q&&(x.kd.pure||q.kd.pure||jH i j un))
def JO (un:List (Nat × Nat)) (j:Nat) (ys:List Nat) (q:O):Nat->List O->Bool
 |_,[]=>true
 |i,x::r=>acu un i j x ys q&&JO un j ys q (i+1) r
def OK (un:List (Nat × Nat)) (BA:List (List Nat)) (seen:List O):List Oper->List O->Bool
 |y::r,q::s=>((direct y).all fun i=>decide (i<seen.length))&&JO un seen.length (Hm BA y) q 0 seen&&OK un (BA++[Hm BA y]) (seen++[q]) r s
 |_,_=>true
def chk (P:Program) (N:Nat):Code->C->Bool
 |.skip,.skip=>true
 |.ret,.ret=>true
 |.exit i,.exit j=>decide (i=j)
 |.region _ ops d,.rX os dr un _=>decide (d=dr)&&adU P N ops ops.toList os&&(!dr||OK un [] [] ops.toList os)
 |.seq a b,.seq x y=>chk P N a x&&chk P N b y
 |.cond c a b,.cond c' x y=>cM c c'&&chk P N a x&&chk P N b y
 |.block i b,.aJ j x=>decide (i=j)&&chk P N b x
 |.loop b,.loop x=>chk P N b x
 |.label _,.skip=>true
 |.scope b,.seq .skip x=>chk P N b x
 |_,_=>false
def chkR (P:Program):ResultVar->Rv->Bool
 |.tmp t,.t i=>decide (t=i)
 |.cell a t,.c i ag=>decide (a=i)&&decide (kD P t=some ag)
 |_,_=>false
def DG (P:Program):List ResultVar->List Rv->Bool
 |[],[]=>true
 |x::r,y::s=>chkR P x y&&DG P r s
 |_,_=>false
def chkF (P:Program) (fn:Func) (q:gH):Bool:=
 decide (fn.ntmps = q.n) && !(fn.name == "runtime.NumGoroutine") && DG P fn.results.toList q.res && (match fn.body with
  |some c=>chk P q.n c q.body
  |none=>false)
structure OX (P:Program) (c:dO):Prop where
 mixed:P.follows .mixedOrders=true
 fn:∀f m q,c.fn f=some (m,q)->∃fn,P.funcs[f]?=some fn/\chkF P fn q=true
end Go.Am

/- What one operation of the dump does is what the compact operation says: the operations that call nothing. -/
namespace Go.Am

def dH (c:dO) (X:Nat->Prop) (φ:cZ) (w:World):Prop:=∀g,bF (Rd X φ w) [] (.dh (c.gl g)) (.pointer (some ⟨g,0,none⟩))
theorem dH.nO {c:dO} {X:Nat->Prop} {φ φ':cZ} {w w':World} (h:dH c X φ w) (a:eW φ w φ' w'):dH c X φ' w':=fun g=>(h g).mono a.rd (.refl _)

def Ok (P:Program) (X:Nat->Prop) (φ:cZ) (w:World) (o:Oper) (a:Act) (v:AV) (H':Heap):Prop:=
 ∀ (K:Act->World->Prop) (Q:Exit->Act->World->Prop),(∀v' w' φ',bF (Rd X φ' w') φ' v v'->bV X φ' w' H'->eW φ w φ' w'->K (a.put o.dst v') w')->o.wp P a w K Q

section
variable {P:Program} {c:dO} {X:Nat->Prop} {φ:cZ} {w:World} {env:Env} {H:Heap} {a:Act} {o:Oper}

theorem Ok.value {v:AV} {v':Value} {w':World} {H':Heap} {φ':cZ} (hr:(execOp a.eval o).run P w=.ok (.value v') w') (r:bF (Rd X φ' w') φ' v v') (h:bV X φ' w' H') (k:eW φ w φ' w'):Ok P X φ w o a v H':=by
 intro K Q hK;unfold Oper.wp;rw[hr];exact hK v' w' φ' r h k
theorem Ok.quiet {v:AV} {v':Value} (hr:(execOp a.eval o).run P w=.ok (.value v') w) (r:bF (Rd X φ w) φ v v') (h:bV X φ w H):Ok P X φ w o a v H:=Ok.value hr r h (.refl _ _)
theorem Ok.skip {w':World} {H':Heap} {φ':cZ} (hr:(execOp a.eval o).run P w=.ok .skip w') (h:bV X φ' w' H') (k:eW φ w φ' w'):Ok P X φ w o a .undef H':=by
 intro K Q hK;unfold Oper.wp;rw[hr];exact hK undef w' φ' (.undef _) h k

theorem CB {R:Addr->Value->Prop} {ψ:cZ} {v:Value} {x:AV} (h:GZ v x=true):bF R ψ x v:=by
 unfold GZ at h;split at h
 ·simp at h; subst h; exact .bool _ _
 ·simp at h; obtain⟨rfl,rfl⟩:=h; exact .int _ _ _
 ·exact .dp _
 ·exact .fo _
 ·exact .fv _
 ·simp at h; subst h; exact .str _ _
 ·rename_i vs;have:vs=#[]:=by simpa using h
  subst this;exact .undef _
 ·cases h
theorem CA {R:Addr->Value->Prop} {ψ:cZ}:∀{vs:List Value} {xs:List AV},rL vs xs=true->xs.length=vs.length/\∀ (i:Nat) (x:AV) (v:Value),xs[i]?=some x->vs[i]?=some v->bF R ψ x v
 |[],[],_=>⟨rfl,fun i x v hx=>by simp at hx⟩
 |[],_::_,h=>by simp[rL] at h
 |_::_,[],h=>by simp[rL] at h
 |v::r,x::s,h=>by
   simp only[rL,ae] at h;obtain⟨hl,hm⟩:=CA (R:=R) (ψ:=ψ) h.2;refine⟨by simp[hl],fun i y u hy hu=>?_⟩;cases i with
   |zero=>simp at hy hu; subst hy; subst hu; exact CB h.1
   |succ i=>simp at hy hu; exact hm i y u hy hu
theorem aan {R:Addr->Value->Prop} {ψ:cZ} {v:Value} {x:AV} (h:chkV v x=true):bF R ψ x v:=by
 unfold chkV at h;split at h
 ·rename_i cs ds;obtain⟨hl,hm⟩:=CA (R:=R) (ψ:=ψ) h;exact .agg _ _ _ (by simpa using hl) fun i x v hx hv=>hm i x v hx (by simpa using hv)
 ·exact CB h
theorem bO (he:o9 X φ w env a.tmps) (hg:dH c X φ w) {x:Operand} {y:E} (h:cM x y=true):bF (Rd X φ w) φ (ev c env y) (a.eval x):=by
 unfold cM at h;split at h
 ·simp at h; subst h; exact he _
 ·exact aan h
 ·simp at h; subst h;exact .func _ _ _ _ _ _ rfl rfl rfl (fun i c v hc=>by simp at hc) (fun i c v hc=>by simp at hc)
 ·simp at h; subst h; exact (hg _).dC rfl _
 ·cases h

def s6 (X:Nat->Prop) (φ:cZ) (w:World) (xs:List AV) (vs:Array Value):Prop:=xs.length=vs.size/\∀ (i:Nat) (x:AV) (v:Value),xs[i]?=some x->vs[i]?=some v->bF (Rd X φ w) φ x v
theorem nH (he:o9 X φ w env a.tmps) (hg:dH c X φ w):∀{xs:List Operand} {ys:List E},iz xs ys=true ->
  (En c env ys).length=xs.length/\∀ (i:Nat) (x:AV) (v:Value),(En c env ys)[i]?=some x->(xs.map a.eval)[i]?=some v->bF (Rd X φ w) φ x v
 |[],[],_=>⟨rfl,fun i x v hx=>by simp[En] at hx⟩
 |[],_::_,h=>by simp[iz] at h
 |_::_,[],h=>by simp[iz] at h
 |x::r,y::s,h=>by
   simp only[iz,ae] at h;obtain⟨hl,hm⟩:=nH he hg h.2;refine⟨by simp[En,hl],fun i z v hz hv=>?_⟩;cases i with
   |zero=>simp[En] at hz hv; subst hz; subst hv; exact bO he hg h.1
   |succ i=>simp[En] at hz; simp at hv; exact hm i z v hz (by simpa using hv)

/-! Places -/
def LH (X:Nat->Prop) (φ:cZ) (w:World) (cs:List AV) (ad:Addr):Prop:=∀(j:Nat) (x:AV),cs[j]?=some x->∃u,w.cell? (ad.add j)=some u/\bF (Rd X φ w) φ x u
theorem bF.Jb {R:Addr->Value->Prop} {x:AV} {v:Value} (h:bF R [] x v) (φ:cZ):bF R φ x v:=h.mono (fun _ _ h=>h) ⟨Nat.zero_le _,fun b p hb=>by simp at hb⟩
theorem LH.TE {cs:List AV} {v:Value} (h:bF (Rd X φ w) φ (.dh cs) v):∃ad,v=.pointer (some ad)/\LH X φ w cs ad:=by
 cases h with
 |dh _ _ ad u hu h=>exact⟨ad,rfl,fun j x hx=>⟨u j,(hu j x hx).2.2,(h j x hx).Jb φ⟩⟩
theorem LH.Qb (hh:bV X φ w H) {b off:Nat} {cs:List AV} (hb:aJ H b=some cs) {v:Value} (h:bF (Rd X φ w) φ (.ptr b off) v) :
  ∃ g sz arr e,v=.pointer (some ⟨g,off,none⟩)/\φ[b]?=some (some (g,sz))/\w.heap[g]?=some (.cells arr e (0,0))/\arr.size+1=sz/\cs.length<=arr.size/\¬ X g /\
   (∀(i:Nat) (c:AV),cs[i]?=some c->∃u,arr[i]?=some u/\bF (Rd X φ w) φ c u)/\LH X φ w (cs.drop off) ⟨g,off,none⟩:=by
 cases h with
 |ptr _ _ _ ad Uh hp=>
   obtain⟨g,sz,arr,e,h1,h2,h3,h4,h5,h6⟩:=hh.cat hb fun g sz hg=>(hp g sz hg).2;obtain⟨rfl,_⟩:=hp g sz h1;refine⟨g,sz,arr,e,rfl,h1,h2,h3,h4,h5,h6,fun j x hx=>?_⟩;rw[aW] at hx;obtain⟨u,hu,r⟩:=h6 _ _ hx;exact⟨u,by rw[Addr.iq,gS h2]; exact hu,r⟩
theorem LH.values {cs:List AV} {ad:Addr} (h:LH X φ w cs ad):∀n,n<=cs.length->∃vs:List Value,vs.length=n/\(∀(j:Nat) (v:Value),vs[j]?=some v->w.cell? (ad.add j)=some v) /\
  ∀ (j:Nat) (x:AV) (v:Value),(cs.take n)[j]?=some x->vs[j]?=some v->bF (Rd X φ w) φ x v
 |0,_=>⟨[],rfl,fun j v hv=>by simp at hv,fun j x v hx=>by simp at hx⟩
 |n+1,hn=>by
   obtain⟨vs,hl,h1,h2⟩:=LH.values h n (by omega);obtain⟨x,hx⟩:=aZ (l:=cs) (i:=n) (by omega);obtain⟨u,hu,r⟩:=h n x hx;refine⟨vs++[u],by simp[hl],fun j v hv=>?_,fun j y v hy hv=>?_⟩
   ·by_cases hj:j<vs.length
    ·rw[az hj] at hv; exact h1 j v hv
    ·have bQ:=ak hv;simp at bQ;have hje:j=n:=by omega
     subst hje;rw[aN (by omega)] at hv;simp[hl] at hv;subst hv;exact hu
   ·by_cases hj:j<vs.length
    ·rw[az hj] at hv;rw[aQ (by omega)] at hy;exact h2 j y v (by rw[aQ (by omega)]; exact hy) hv
    ·have bQ:=ak hv;simp at bQ;have hje:j=n:=by omega
     subst hje;rw[aN (by omega)] at hv;simp[hl] at hv;subst hv;rw[aQ (by omega),hx] at hy;simp at hy;subst hy;exact r

theorem wa {t:TypeId} {i:TypeInfo} (h:P.info? t=some i):(typeInfo t).run P w=.ok i w:=by simp[typeInfo,h]
theorem ia {t:TypeId} {i:TypeInfo} (h:P.info? t=some i):(sizeOf t).run P w=.ok i.size w:=by simp[sizeOf,wa h]
theorem re {t:TypeId} {i:TypeInfo} {z:Value} (h:P.info? t=some i) (hz:i.zero=some z):(zeroValue t).run P w=.ok z w:=by simp[zeroValue,wa h,hz]

theorem Hp {t:TypeId} {k:Nat} (h:kD P t=some (some k)):∃i,P.info? t=some i/\i.size=k/\(isAgg t).run P w=.ok true w:=by
 unfold kD at h;split at h
 ·rename_i fs hu;split at h
  ·rename_i i hi;exact⟨i,hi,by simpa using h,by simp[isAgg,run_underlying hu]⟩
  ·cases h
 ·rename_i n e hu;split at h
  ·rename_i i hi;exact⟨i,hi,by simpa using h,by simp[isAgg,run_underlying hu]⟩
  ·cases h
 ·simp at h
 ·cases h
theorem nN {t:TypeId} (h:kD P t=some none):(isAgg t).run P w=.ok false w:=by
 unfold kD at h;split at h
 ·split at h<;>simp at h
 ·split at h<;>simp at h
 ·rename_i d h1 h2 hu;simp only[isAgg,Sem.run_bind,run_underlying hu,Result.andThen_ok];rfl
 ·cases h
theorem Kz {t:TypeId} {ag:Option Nat} (ha:kD P t=some ag) {cs:List AV} {x:AV} (hx:BR ag cs=some x) {ad:Addr} (hp:LH X φ w cs ad) :
  ∃ v,(loadVar t ad).run P w=.ok v w/\bF (Rd X φ w) φ x v:=by
 cases ag with
 |some k=>
   obtain⟨i,hi,hk,Bf⟩:=Hp (w:=w) ha;simp only[BR] at hx;split at hx
   ·rename_i hle;simp at hx;subst hx;obtain⟨vs,hl,h1,h2⟩:=hp.values k hle;have hlc:=run_loadCells_list (P:=P) w ad vs h1;refine⟨.agg vs.toArray,?_,.agg _ _ _ (by simp[hl]; omega) fun i c v hc hv=>h2 i c v hc (by simpa using hv)⟩;simp only[loadVar,Sem.run_bind,Bf,Result.andThen_ok,if_true,ia hi,hk];rw[<-hl,hlc];simp
   ·cases hx
 |none=>
   have Bf:=nN (P:=P) (w:=w) ha;simp only[BR] at hx;cases cs with
   |nil=>simp at hx
   |cons y r=>
     simp at hx;subst hx;obtain⟨u,hu,r⟩:=hp 0 y rfl;rw[Addr.add_zero'] at hu;refine⟨u,?_,r⟩;simp only[loadVar,Sem.run_bind,Bf,Result.andThen_ok,bp,if_false,run_load,hu]

theorem To {t:TypeId} {ag:Option Nat} (ha:kD P t=some ag) {cs:List AV} {vs:Array Value} (hl:cs.length=vs.size)
  (hr:∀(i:Nat) (c:AV) (v:Value),cs[i]?=some c->vs[i]?=some v->bF (Rd X φ w) φ c v) {off:Nat} {x:AV} (hx:BR ag (cs.drop off)=some x) :
  ∃ v,(part t vs off).run P w=.ok v w/\bF (Rd X φ w) φ x v:=by
 cases ag with
 |some k=>
   obtain⟨i,hi,hk,Bf⟩:=Hp (w:=w) ha;simp only[BR] at hx;split at hx
   ·rename_i hle;simp at hx;subst hx;rw[dT] at hle;refine⟨.agg (vs.extract off (off+k)),?_,.agg _ _ _ ?_ fun j c v hc hv=>?_⟩
    ·simp only[part,Sem.run_bind,Bf,Result.andThen_ok,if_true,ia hi,hk,Sem.run_pure]
    ·simp only[bj,dT,Array.size_extract]; omega
    ·have hjk:j<k:=by have:=ak hc; simp only[bj] at this; omega
     rw[aQ hjk,aW] at hc
     have hv':vs[off+j]?=some v:=by
      rw[Array.getElem?_extract] at hv;split at hv
      ·exact hv
      ·cases hv
     exact hr _ c v hc hv'
   ·cases hx
 |none=>
   have Bf:=nN (P:=P) (w:=w) ha;simp only[BR,List.head?_drop] at hx;have bQ:=ak hx;obtain⟨v,hv⟩:=bW (l:=vs) (i:=off) (by omega);exact⟨v,by simp only[part,Sem.run_bind,Bf,Result.andThen_ok,bp,if_false,hv,Sem.run_pure],hr off x v hx hv⟩

theorem gE {k:IntKind} {n:Int} {v:Value} (h:bF (Rd X φ w) φ (.int k n) v):v=.int k n:=by cases h; rfl
theorem lY {b:Bool} {v:Value} (h:bF (Rd X φ w) φ (.bool b) v):v=.bool b:=by cases h; rfl

theorem aaU {op:BinOp} {t:TypeId} {k k':IntKind} {x y:Int} {r:AV} (h:qT op (.int k x) (.int k' y)=some r) :
  ∃ v,(binOp op t (.int k x) (.int k' y)).run P w=.ok v w/\∀ R ψ,bF R ψ r v:=by
 cases op<;>simp only[qT,arith] at h
 case shl=>
  split at h
  ·cases h
  ·rename_i hn;simp at h; subst h;exact⟨_,by simp[binOp,Op.shift,hn],fun _ _=>.int _ _ _⟩
 case shr=>
  split at h
  ·cases h
  ·rename_i hn;simp at h; subst h;exact⟨_,by simp[binOp,Op.shift,hn],fun _ _=>.int _ _ _⟩
 all_goals
  split at h
  ·rename_i hk;subst hk
   first
    |(simp at h; subst h; first|exact⟨_,by simp[go_sem],fun _ _=>.int _ _ _⟩|exact⟨_,by simp[go_sem],fun _ _=>.bool _ _⟩)
    | (split at h
       ·cases h
       ·rename_i hn;simp at h; subst h;exact⟨_,by simp[go_sem,hn],fun _ _=>.int _ _ _⟩)
  ·cases h

theorem K3 {l:List Bool} {xs ys:List AV} {e:Bool} (h:yp (true::l) xs ys=some e) :
  ∃ k a r b s e',xs=.int k a::r/\ys=.int k b::s/\yp l r s=some e'/\e=(a == b&&e'):=by
 cases xs with
 |nil=>simp[yp] at h
 |cons x r=>
   cases ys with
   |nil=>cases x<;>simp[yp] at h
   |cons y s=>
     cases x<;>cases y<;>simp[yp] at h
     rename_i k a k' b;obtain⟨rfl,h⟩:=h;split at h
     ·rename_i e' he;simp at h;exact⟨k,a,r,b,s,e',rfl,rfl,he,h.symm⟩
     ·cases h
theorem GO {l:List Bool} {xs ys:List AV} {e:Bool} (h:yp (false::l) xs ys=some e) :
  ∃ a r b s e',xs=.bool a::r/\ys=.bool b::s/\yp l r s=some e'/\e=(a == b&&e'):=by
 cases xs with
 |nil=>simp[yp] at h
 |cons x r=>
   cases ys with
   |nil=>cases x<;>simp[yp] at h
   |cons y s=>
     cases x<;>cases y<;>simp[yp] at h
     rename_i a b;split at h
     ·rename_i e' he;simp at h;exact⟨a,r,b,s,e',rfl,rfl,he,h.symm⟩
     ·cases h
theorem tT (d:Nat):∀(fs:List Field) (l:List Bool) (off:Nat) (xs ys:List AV) (vx vy:Array Value) (e:Bool),sX P off fs l=true->yp l (xs.drop off) (ys.drop off)=some e ->
  xs.length=vx.size->ys.length=vy.size->(∀(i:Nat) (c:AV) (v:Value),xs[i]?=some c->vx[i]?=some v->bF (Rd X φ w) φ c v) ->
  (∀(i:Nat) (c:AV) (v:Value),ys[i]?=some c->vy[i]?=some v->bF (Rd X φ w) φ c v)->(Op.eqFields (d+1) vx vy fs).run P w=.ok e w
 |[],[],off,xs,ys,vx,vy,e,_,he,_,_,_,_=>by
   generalize xs.drop off=a at he;generalize ys.drop off=b at he;cases a<;>cases b<;>simp[yp] at he
   subst he;rfl
 |[],_::_,_,_,_,_,_,_,h,_,_,_,_,_=>by simp[sX] at h
 |_::_,[],_,_,_,_,_,_,h,_,_,_,_,_=>by simp[sX] at h
 |f::fs,b::l,off,xs,ys,vx,vy,e,h,he,Cq,Cp,hx,hy=>by
   simp only[sX,ae,decide_eq_true_eq] at h;obtain⟨⟨⟨KL,Bd⟩,Ei⟩,Jo⟩:=h;have ih:=fun e he=>tT d fs l (off+1) xs ys vx vy e Jo he Cq Cp hx hy
   have cell:∀(zs:List AV) (vz:Array Value) (z:AV) (r:List AV),zs.length=vz.size->zs.drop off=z::r->(∃v,vz[off]?=some v)/\zs[off]?=some z/\zs.drop (off+1)=r:=by
    intro zs vz z r hl hd
    have h0:zs[off]?=some z:=by
     have h:=congrArg (·[0]?) hd;simp only[aW,LJ,DM] at h;exact h
    refine⟨bW (by have:=ak h0; omega),h0,?_⟩;rw[<-List.tail_drop,hd]; rfl
   split at Ei
   ·rename_i k hu;subst Ei;have Bf:kD P f.type=some none:=by simp[kD,hu]
    have hna:=nN (P:=P) (w:=w) Bf;obtain⟨kx,a,r,b',s,e',hdx,hdy,hee,rfl⟩:=K3 he;obtain⟨⟨vx0,Zw⟩,zQ,hx1⟩:=cell xs vx _ _ Cq hdx;obtain⟨⟨vy0,hvy⟩,hy0,hy1⟩:=cell ys vy _ _ Cp hdy;obtain rfl:=gE (hx off _ vx0 zQ Zw);obtain rfl:=gE (hy off _ vy0 hy0 hvy);have ih':=ih e' (by rw[hx1,hy1]; exact hee);simp only[Op.eqFields,Bd,ne_eq,not_false_eq_true,if_true,part,Sem.run_bind,hna,Result.andThen_ok,bp,if_false,KL,Zw,hvy,Sem.run_pure,run_equalIn_int w d f.type kx k a b' hu];cases hab:(a == b')<;>simp[ih']
   ·rename_i hu;simp only[bt] at Ei;subst Ei;have Bf:kD P f.type=some none:=by simp[kD,hu]
    have hna:=nN (P:=P) (w:=w) Bf;obtain⟨a,r,b',s,e',hdx,hdy,hee,rfl⟩:=GO he;obtain⟨⟨vx0,Zw⟩,zQ,hx1⟩:=cell xs vx _ _ Cq hdx;obtain⟨⟨vy0,hvy⟩,hy0,hy1⟩:=cell ys vy _ _ Cp hdy;obtain rfl:=lY (hx off _ vx0 zQ Zw);obtain rfl:=lY (hy off _ vy0 hy0 hvy);have ih':=ih e' (by rw[hx1,hy1]; exact hee);simp only[Op.eqFields,Bd,ne_eq,not_false_eq_true,if_true,part,Sem.run_bind,hna,Result.andThen_ok,bp,if_false,KL,Zw,hvy,Sem.run_pure,run_equalIn_bool w d f.type a b' hu];cases hab:(a == b')<;>simp[ih']
   ·cases Ei
end
end Go.Am

/- What one operation of the dump does, continued: memory. -/
set_option linter.unusedSimpArgs false
namespace Go.Am
section
variable {P:Program} {c:dO} {X:Nat->Prop} {φ:cZ} {w:World} {env:Env} {H:Heap} {a:Act} {o:Oper}

def Cs (X:Nat->Prop) (φ:cZ) (w:World) (cs:List AV) (vs:List Value):Prop:=cs.length=vs.length/\∀ (i:Nat) (c:AV) (v:Value),cs[i]?=some c->vs[i]?=some v->bF (Rd X φ w) φ c v
theorem Cs.get {cs:List AV} {vs:List Value} (h:Cs X φ w cs vs) {i:Nat} {c:AV} (hc:cs[i]?=some c):∃u,vs[i]?=some u/\bF (Rd X φ w) φ c u:=by
 obtain⟨u,hu⟩:=aZ (l:=vs) (i:=i) (h.1▸ak hc);exact⟨u,hu,h.2 i c u hc hu⟩
theorem Cs.append {cs ds:List AV} {vs us:List Value} (h:Cs X φ w cs vs) (k:Cs X φ w ds us):Cs X φ w (cs++ds) (vs++us):=by
 refine⟨by simp[h.1,k.1],fun i c v hc hv=>?_⟩;by_cases hi:i<cs.length
 ·rw[az hi] at hc;rw[az (h.1▸hi)] at hv;exact h.2 i c v hc hv
 ·rw[aN (by omega)] at hc;rw[aN (by have:=h.1; omega)] at hv;rw[h.1] at hc;exact k.2 _ c v hc hv
theorem Cs.take {cs:List AV} {vs:List Value} (h:Cs X φ w cs vs) (n:Nat):Cs X φ w (cs.take n) (vs.take n):=by
 refine⟨by simp[h.1],fun i c v hc hv=>?_⟩;have hi:i<n:=by have:=ak hc; simp at this; omega
 rw[aQ hi] at hc hv;exact h.2 i c v hc hv
theorem Cs.drop {cs:List AV} {vs:List Value} (h:Cs X φ w cs vs) (n:Nat):Cs X φ w (cs.drop n) (vs.drop n):=by
 refine⟨by simp[h.1],fun i c v hc hv=>?_⟩;rw[aW] at hc hv;exact h.2 _ c v hc hv
theorem Cs.iZ {cs ds:List AV} {vs us:List Value} (h:Cs X φ w cs vs) (k:Cs X φ w ds us) (off:Nat):Cs X φ w (iZ cs off ds) (vs.take off++us++vs.drop (off+us.length)):=by
 unfold Am.iZ;rw[<-k.1];exact ((h.take off).append k).append (h.drop _)
theorem bF.cs {x:AV} {v:Value} (h:bF (Rd X φ w) φ x v) (hs:bq x.cells=true):Cs X φ w x.cells v.cells.toList/\∀ u∈v.cells.toList,u.oneCell'=true:=by
 obtain⟨hl,hm⟩:=h.cells hs;refine⟨⟨by simpa using hl,fun i c u hc hu=>?_⟩,fun u hu=>?_⟩
 ·obtain⟨u',h1,h2,_⟩:=hm i c hc;simp at hu;rw[h1] at hu;simp at hu;subst hu;exact h2
 ·obtain⟨i,hi⟩:=bz hu;obtain⟨c,hc⟩:=aZ (l:=x.cells) (i:=i) (by have:=ak hi; simp at this; omega);obtain⟨u',h1,_,h3⟩:=hm i c hc;simp at hi;rw[h1] at hi;simp at hi;subst hi;exact h3
theorem Cs.ss {cs:List AV} {vs:List Value} (h:Cs X φ w cs vs) (hl:bq cs=true):∀u∈vs,u.oneCell'=true:=by
 intro u hu;obtain⟨i,hi⟩:=bz hu;obtain⟨c,hc⟩:=aZ (l:=cs) (i:=i) (by have:=ak hi; have:=h.1; omega);exact (h.2 i c u hc hi).ss (xm hl i c hc)
theorem ta {t:TypeId} {zs:List AV} (h:pk P t zs=true):∃i z,P.info? t=some i/\i.zero=some z/\Cs X φ w zs z.cells.toList/\bq zs=true:=by
 unfold pk at h;split at h
 ·rename_i i hi;split at h
  ·rename_i z hz;simp only[ae] at h;exact⟨i,z,hi,hz,CA h.1,h.2⟩
  ·cases h
 ·cases h
theorem iy {t:TypeId} {k:Nat} (h:im P t k=true):∃e i z,P.underlying t=some (.slice e)/\P.info? e=some i/\i.size=k/\0<k/\i.bytes<=1024/\i.zero=some z/\z.cells.size=k:=by
 unfold im at h;split at h
 ·rename_i e hu;split at h
  ·rename_i i hi;simp only[ae,decide_eq_true_eq] at h;obtain⟨⟨⟨h1,h2⟩,h3⟩,h4⟩:=h;split at h4
   ·rename_i z hz;exact⟨e,i,z,hu,hi,h1,h2,h3,hz,by simpa using h4⟩
   ·cases h4
  ·cases h
 ·cases h

theorem tL (hh:bV X φ w H) {arr:Array Value} {e:TypeId} {cs:List AV} {w1:World} (hw:w1.heap=w.heap) (ho:w1.os=w.os) (ht:w1.tape=w.tape) (hp:w1.output=w.output)
  (hl:cs.length<=arr.size) (hc:∀(i:Nat) (c:AV),cs[i]?=some c->∃u,arr[i]?=some u/\bF (Rd X φ w) φ c u) (hd:w.drawn<=w1.drawn:=by first|exact aI _|exact Nat.le_succ _) :
  bV X (φ++[some (w.heap.size,arr.size+1)]) (w1.alloc (.cells arr e)) (H++[some cs])/\eW φ w (φ++[some (w.heap.size,arr.size+1)]) (w1.alloc (.cells arr e)):=
 hh.alloc (w':=w1.alloc (.cells arr e)) (e:=e) (by simp[World.alloc,hw]) ho ht hp hl hc hd
theorem Cs.at {cs:List AV} {vs:List Value} {arr:Array Value} (h:Cs X φ w cs vs) (hv:∀(i:Nat) (u:Value),vs[i]?=some u->arr[i]?=some u):∀(i:Nat) (c:AV),cs[i]?=some c->∃u,arr[i]?=some u/\bF (Rd X φ w) φ c u:=by
 intro i c hc;obtain⟨u,hu,r⟩:=h.get hc;exact⟨u,hv i u hu,r⟩
theorem TN {R:Addr->Value->Prop} {n g sz:Nat} (hn:φ.length=n):bF R (φ++[some (g,sz+1)]) (.ptr n 0) (.pointer (some ⟨g,0,none⟩)):=by
 refine .ptr _ _ _ _ (by simp[hn]) fun g' pe h=>?_;subst hn;simp at h;obtain⟨rfl,rfl⟩:=h;exact⟨rfl,by omega⟩
theorem Kw {R:Addr->Value->Prop} {n g sz k len cap:Nat} (hn:φ.length=n) (hc:len<=cap) (hs:cap*k<=sz):bF R (φ++[some (g,sz+1)]) (.sl k n 0 len) (.slice (some ⟨g,0,none⟩) len cap):=by
 refine .sl _ _ _ _ _ _ _ (by simp[hn]) hc fun g' pe h=>?_;subst hn;simp at h;obtain⟨rfl,rfl⟩:=h;exact⟨fun _=>rfl,by omega⟩
theorem TM {R:Addr->Value->Prop} {ψ:cZ} {n g sz k len cap:Nat} (hn:ψ.length=n) (hc:len<=cap) (hs:cap*k<=sz):bF R (ψ++[some (g,sz+1)]) (.sl k n 0 len) (.slice (some ⟨g,0,none⟩) len cap):=Kw hn hc hs

theorem P6 {t:TypeId} {zs:List AV} (eP:o.op=.alloc t) (hh:bV X φ w H) (hz:pk P t zs=true):Ok P X φ w o a (.ptr H.length 0) (H++[some zs]):=by
 obtain⟨i,z,hi,hz,dG,_⟩:=ta (X:=X) (φ:=φ) (w:=w) hz;obtain⟨h1,h2⟩:=tL hh (w1:=w) (arr:=z.cells) (e:=t) rfl rfl rfl rfl (by rw[dG.1]; simp) (dG.at (by simp));refine Ok.value ?_ (TN hh.len) h1 h2;simp[execOp,eP,Instr.alloc,re hi hz,newVar,newRow]
theorem ae7 {t:TypeId} {x:Operand} {v:AV} (eP:o.op=.box t x) (hh:bV X φ w H) (r:bF (Rd X φ w) φ v (a.eval x)) (hs:bq v.cells=true) :
  Ok P X φ w o a (.ptr H.length 0) (H++[some v.cells]):=by
 obtain⟨dG,_⟩:=r.cs hs;obtain⟨h1,h2⟩:=tL hh (w1:=w) (arr:=(a.eval x).cells) (e:=t) rfl rfl rfl rfl (by rw[dG.1]; simp) (dG.at (by simp));refine Ok.value ?_ (TN hh.len) h1 h2;simp[execOp,eP,Instr.box,newVar,newRow]

theorem ag6 {t:TypeId} {x:Operand} {y:E} {ag:Option Nat} {v:AV} {H':Heap} {fl:Fp} {call:Nat->List AV->Heap->Option (AV × Heap)} (eP:o.op=.load t x) (hh:bV X φ w H) (r:bF (Rd X φ w) φ (ev c env y) (a.eval x))
  (ha:kD P t=some ag) (hs:fu c call env H (.ld ag y)=some (v,H',fl)):Ok P X φ w o a v H':=by
 have go:∀{cs:List AV} {ad:Addr},a.eval x=.pointer (some ad)->LH X φ w cs ad->BR ag cs=some v->Ok P X φ w o a v H:=by
  intro cs ad hx hp hv;obtain⟨u,h1,h2⟩:=Kz ha hv hp;exact Ok.quiet (by simp[execOp,eP,hx,Instr.loadAt,Instr.sureAddr,h1]) h2 hh
 simp only[fu] at hs;split at hs
 ·rename_i cs hc;split at hs
  ·rename_i u hu;simp at hs;obtain⟨rfl,rfl,rfl⟩:=hs;rw[hc] at r;obtain⟨ad,h1,h2⟩:=LH.TE r;exact go h1 h2 hu
  ·cases hs
 ·rename_i b off hc;split at hs
  ·rename_i cs hb;split at hs
   ·rename_i u hu;simp at hs;obtain⟨rfl,rfl,rfl⟩:=hs;rw[hc] at r;obtain⟨g,sz,arr,e,h1,_,_,_,_,_,_,h2⟩:=LH.Qb hh hb r;exact go h1 h2 hu
   ·cases hs
  ·cases hs
 ·cases hs

theorem fS {cs vs:List AV} {off:Nat} (h:off+vs.length<=cs.length):(iZ cs off vs).length=cs.length:=by
 unfold iZ;simp only[bC,bj,dT];omega
theorem aaQ (l us:List Value) (off n i:Nat) (h:off+us.length<=n) (hn:n<=l.length) (hi:i<n) :
  (l.take off++us++l.drop (off+us.length))[i]?=((l.take n).take off++us++(l.take n).drop (off+us.length))[i]?:=by
 have e1:(l.take off).length=off:=by simp; omega
 have e2:((l.take n).take off).length=off:=by simp; omega
 by_cases h1:i<off
 ·rw[du,du,az (by omega),az (by omega),aQ h1,aQ h1,aQ hi]
 ·by_cases h2:i<off+us.length
  ·have f1:i<(l.take off++us).length:=by rw[bC,e1]; omega
   have f2:i<((l.take n).take off++us).length:=by rw[bC,e2]; omega
   rw[az f1,az f2,aN (by omega),aN (by omega),e1,e2]
  ·have f1:(l.take off++us).length=off+us.length:=by rw[bC,e1]
   have f2:((l.take n).take off++us).length=off+us.length:=by rw[bC,e2]
   rw[aN (by omega),aN (by omega),f1,f2,aW,aW,aQ (by omega)]
theorem Ez (hh:bV X φ w H) {b off:Nat} {cs:List AV} (hb:aJ H b=some cs) {v:Value} (r:bF (Rd X φ w) φ (.ptr b off) v) {ds:List AV} {us:List Value} (dG:Cs X φ w ds us)
  (h1:∀u∈us,u.oneCell'=true) (oV:off+ds.length<=cs.length) :
  ∃ g w',v=.pointer (some ⟨g,off,none⟩)/\(storeCells ⟨g,off,none⟩ us).run P w=.ok () w'/\bV X φ w' (H.set b (some (iZ cs off ds)))/\eW φ w φ w':=by
 obtain⟨g,sz,arr,e,rfl,jU,hg,mQ,hle,hX,hm,_⟩:=LH.Qb hh hb r;have HU:=run_storeCells_at P g off e us 0 arr w hg (by rw[<-dG.1]; omega) h1;simp only[DM] at HU
 have Bb:(arr.toList.take off++us++arr.toList.drop (off+us.length)).toArray.size=arr.size:=by
  simp only[s9,bC,bj,dT,qX,<-dG.1]; omega
 have key:∀(i:Nat) (x:AV),(iZ cs off ds)[i]?=some x->∃u,(arr.toList.take off++us++arr.toList.drop (off+us.length)).toArray[i]?=some u/\bF (Rd X φ w) φ x u:=by
  intro i x hx
  have DZ:Cs X φ w (cs.take cs.length) (arr.toList.take cs.length):=by
   refine⟨by simp; omega,fun i c u hc hu=>?_⟩;have hi:i<cs.length:=by have:=ak hc; simp at this; omega
   rw[aQ hi] at hc hu;obtain⟨u',h1,h2⟩:=hm i c hc;simp at hu;rw[h1] at hu;simp at hu;subst hu;exact h2
  rw[List.take_length] at DZ;have hov:=DZ.iZ dG off;obtain⟨u,hu,r⟩:=hov.get hx;refine⟨u,?_,r⟩;have hi:i<cs.length:=by have:=ak hx; rw[fS oV] at this; exact this
  have hul:=dG.1;simp only[xz];rw[<-hu];exact aaQ arr.toList us off cs.length i (by omega) (by simp; omega) hi
 obtain⟨k1,k2⟩:=hh.store (cs':=iZ cs off ds) (arr':=(arr.toList.take off++us++arr.toList.drop (off+us.length)).toArray) jU hg mQ Bb rfl hX
  (by rw[fS oV,Bb]; omega) key
 exact⟨g,_,rfl,HU,k1,k2⟩
theorem Yq {t:TypeId} {x y:Operand} {b off k:Nat} {cs:List AV} {v:AV} (eP:o.op=.store t x y) (hh:bV X φ w H) (hb:aJ H b=some cs) (hk:nk P t k=true)
  (rx:bF (Rd X φ w) φ (.ptr b off) (a.eval x)) (ry:bF (Rd X φ w) φ v (a.eval y)) (hl:v.cells.length=k) (oV:off+k<=cs.length) (hs:bq v.cells=true) :
  Ok P X φ w o a .undef (H.set b (some (iZ cs off v.cells))):=by
 obtain⟨dG,h1⟩:=ry.cs hs;obtain⟨g,w',hx,HU,k1,k2⟩:=Ez (P:=P) hh hb rx dG h1 (by omega);refine Ok.skip ?_ k1 k2;unfold nk at hk;split at hk
 ·rename_i i hi;simp at hk;have mQ:(a.eval y).cells.size=i.size:=by have:=dG.1; simp at this; omega
  simp[execOp,eP,hx,Instr.storeAt,Instr.sureAddr,storeVar,ia hi,mQ,HU]
 ·cases hk

/-! Composite literals -/
theorem GM (off:Nat):∀(l:List Value) (n:Nat) (arr:Array Value),
  ((l.zipIdx n).foldl (fun cs (p:Value × Nat)=>cs.setIfInBounds (off+p.2) p.1) arr).size=arr.size /\
  (off+n+l.length<=arr.size->((l.zipIdx n).foldl (fun cs (p:Value × Nat)=>cs.setIfInBounds (off+p.2) p.1) arr).toList=arr.toList.take (off+n)++l++arr.toList.drop (off+n+l.length))
 |[],n,arr=>by simp
 |v::r,n,arr=>by
   simp only[List.zipIdx_cons,List.foldl_cons];obtain⟨h1,h2⟩:=GM off r (n+1) (arr.setIfInBounds (off+n) v);refine⟨by rw[h1]; simp,fun oV=>?_⟩;simp only[cY] at oV;rw[h2 (by simp; omega)];apply dy;intro i;simp only[Array.toList_setIfInBounds,cY];by_cases h0:i<off+n
   ·rw[az (by simp; omega),az (by simp; omega),az (by simp; omega),az (by simp; omega),
     aQ (by omega),aQ h0,fX (by omega)]
   ·by_cases h3:i=off+n
    ·subst h3
     rw[az (by simp; omega),az (by simp; omega),az (by simp; omega),aN (by simp; omega),
      aQ (by omega),List.getElem?_set_self (by simp; omega)]
     have e1:(arr.toList.take (off+n)).length=off+n:=by simp; omega
     rw[e1]; simp
    ·by_cases h4:i<off+n+(r.length+1)
     ·rw[az (by simp; omega),aN (by simp; omega),az (by simp; omega),aN (by simp; omega)];have e1:(arr.toList.take (off+n)).length=off+n:=by simp; omega
      have e2:((arr.toList.set (off+n) v).take (off+(n+1))).length=off+n+1:=by simp; omega
      rw[e1,e2,show i-(off+n)=(i-(off+n+1))+1 by omega,mS]
     ·rw[aN (by simp; omega),aN (by simp; omega),aW,aW,fX (by simp; omega)];congr 1;simp only[bC,bj,List.length_set,qX,cY];omega
theorem WA (v:Value) (off:Nat) (arr:Array Value) (h:off+v.cells.size<=arr.size) :
  (v.cells.zipIdx.foldl (fun cs (p:Value × Nat)=>cs.setIfInBounds (off+p.2) p.1) arr).toList=arr.toList.take off++v.cells.toList++arr.toList.drop (off+v.cells.toList.length):=by
 have h2:=(GM off v.cells.toList 0 arr).2 (by simpa using h);rw[<-Array.foldl_toList,Array.toList_zipIdx];simpa using h2
theorem sI (he:o9 X φ w env a.tmps) (hg:dH c X φ w) {place:Nat->Option (Nat × Nat)}:∀{ps:List (Nat × Operand)} {qs:List (Nat × Nat × E)} {zs cs:List AV} {arr:Array Value},
  rM place ps qs=true->Cs X φ w zs arr.toList->oZ c env zs qs=some cs->∃arr',Instr.fill place arr (ps.map fun p=>(p.1,a.eval p.2))=some arr'/\Cs X φ w cs arr'.toList
 |[],[],zs,cs,arr,_,hz,hf=>by simp[oZ] at hf; subst hf; exact⟨arr,rfl,hz⟩
 |[],_::_,_,_,_,h,_,_=>by simp[rM] at h
 |_::_,[],_,_,_,h,_,_=>by simp[rM] at h
 |(i,x)::r,(off,sz,y)::s,zs,cs,arr,h,hz,hf=>by
   simp only[rM,ae,decide_eq_true_eq] at h;obtain⟨⟨hp,hx⟩,Jo⟩:=h;simp only[oZ] at hf;split at hf
   ·rename_i hc;obtain⟨h1,h2,h3⟩:=hc;obtain⟨dG,_⟩:=(bO he hg hx).cs h3;have mQ:(a.eval x).cells.size=sz:=by have:=dG.1; simp at this; omega
    have Ck:zs.length=arr.size:=by simpa using hz.1
    have ahj:=WA (a.eval x) off arr (by omega)
    have N7:Cs X φ w (iZ zs off (ev c env y).cells) ((a.eval x).cells.zipIdx.foldl (fun cs (p:Value × Nat)=>cs.setIfInBounds (off+p.2) p.1) arr).toList:=by
     rw[ahj]; exact hz.iZ dG off
    obtain⟨arr',e1,e2⟩:=sI he hg Jo N7 hf;refine⟨arr',?_,e2⟩;simp only[eB,Instr.fill,hp];rw[if_neg (by simp[mQ]; omega)];exact e1
   ·cases hf

theorem run_places (fs:List Field) (h:∀f∈fs,(P.info? f.type).isSome=true) :
  (fs.mapM (m:=Sem) fun f=>do pure (f.offset,<-sizeOf f.type)).run P w=.ok (fs.map fun f=>(f.offset,((P.info? f.type).map (·.size)).getD 0)) w:=by
 induction fs with
 |nil=>rfl
 |cons f r ih=>
   obtain⟨i,hi⟩:=aR.1 (h f (by simp));have ih':=ih fun g hg=>h g (by simp[hg]);simp only[List.mapM_cons,Sem.run_bind,ia hi,Result.andThen_ok,Sem.run_pure,ih',eB,hi,cj,eZ]
theorem YC {t:TypeId} {ps:Array (Nat × Operand)} {qs:List (Nat × Nat × E)} {zs cs:List AV} (eP:o.op=.build t ps) (hh:bV X φ w H) (he:o9 X φ w env a.tmps) (hg:dH c X φ w)
  (hz:pk P t zs=true) (hu:(match P.underlying t with
  |some (.struct fs)=>(fs.toList.all fun f=>(P.info? f.type).isSome)&&rM (si P fs) ps.toList qs
  |some (.array _ e)=>match P.info? e with
    |some i=>rM (fun j=>some (j*i.size,i.size)) ps.toList qs
    |none=>false
  |_=>false)=true) (hf:oZ c env zs qs=some cs):Ok P X φ w o a (.agg cs) H:=by
 obtain⟨i,z,hi,hz,dG,_⟩:=ta (X:=X) (φ:=φ) (w:=w) hz;split at hu
 ·rename_i fs hut;simp only[ae,sO] at hu;obtain⟨arr',e1,e2⟩:=sI he hg hu.2 dG hf;refine Ok.quiet (v':=.agg arr') ?_ (.agg _ _ _ (by simpa using e2.1) fun i c v hc hv=>e2.2 i c v hc (by simpa using hv)) hh;have mX:=run_places (P:=P) (w:=w) fs.toList hu.1
  have hpl2:(fs.mapM (m:=Sem) fun f=>do pure (f.offset,<-sizeOf f.type)).run P w=.ok (fs.toList.map fun f=>(f.offset,((P.info? f.type).map (·.size)).getD 0)).toArray w:=by
   rw[<-yD (xs:=fs),List.mapM_toArray];simp only[Sem.run_map,mX,Result.andThen_ok,yD]
  have aft:(fun j=>((fs.toList.map fun f=>(f.offset,((P.info? f.type).map (·.size)).getD 0)).toArray)[j]?)=si P fs:=by
   funext j;simp only[xz,cJ,eL,si];cases hfj:fs[j]? with
   |none=>rfl
   |some f=>
     obtain⟨i,hi⟩:=aR.1 (hu.1 f (Py.2 (Array.mem_of_getElem? hfj)));simp[hi]
  simp only[execOp,eP,Instr.build,Sem.run_bind,re hi hz,Result.andThen_ok,run_underlying hut,hpl2,aft];have:(DN (fun x=>(x.1,a.eval x.2)) ps).toList=ps.toList.map fun p=>(p.1,a.eval p.2):=by simp
  simp only[this,e1,Sem.run_pure,Result.andThen_ok]
 ·rename_i n e hut;split at hu
  ·rename_i ie hie;obtain⟨arr',e1,e2⟩:=sI he hg hu dG hf;refine Ok.quiet (v':=.agg arr') ?_ (.agg _ _ _ (by simpa using e2.1) fun i c v hc hv=>e2.2 i c v hc (by simpa using hv)) hh;have:(DN (fun x=>(x.1,a.eval x.2)) ps).toList=ps.toList.map fun p=>(p.1,a.eval p.2):=by simp
   simp only[execOp,eP,Instr.build,Sem.run_bind,re hi hz,Result.andThen_ok,run_underlying hut,ia hie,this,e1,Sem.run_pure]
  ·cases hu
 ·cases hu

theorem RQ (zs:List AV):∀(n i:Nat),i<n*zs.length->(rep zs n)[i]?=zs[i%zs.length]?
 |0,i,h=>by simp at h
 |n+1,i,h=>by
   rw[rep];by_cases hi:i<zs.length
   ·rw[az hi,Nat.mod_eq_of_lt hi]
   ·rw[aN (by omega),RQ zs n _ (by rw[ct] at h; omega),<-Nat.mod_eq_sub_mod (by omega)]
theorem kR (zs:List AV):∀n,(rep zs n).length=n*zs.length
 |0=>by simp[rep]
 |n+1=>by rw[rep,bC,kR zs n,ct]; omega
theorem XI {zs:List AV} (h:bq zs=true):∀n,bq (rep zs n)=true:=by
 have app:∀{a b:List AV},bq a=true->bq b=true->bq (a++b)=true:=by
  intro a
  induction a with
  |nil=>intro b _ hb; exact hb
  |cons x r ih=>intro b ha hb; simp only[bq,ae,List.cons_append] at *; exact⟨ha.1,ih ha.2 hb⟩
 intro n
 induction n with
 |zero=>rfl
 |succ n ih=>exact app h ih
theorem PU {zs:List AV} {z:Array Value} (h:Cs X φ w zs z.toList) {n m:Nat} (hm:n*z.size<=m) {arr:Array Value} (hz:arr.size=m) (ha:∀i,i<m->arr[i]?=some (z[i%z.size]!)) :
  ∀ (i:Nat) (c:AV),(rep zs n)[i]?=some c->∃u,arr[i]?=some u/\bF (Rd X φ w) φ c u:=by
 intro i c hc;have Ck:zs.length=z.size:=by simpa using h.1
 have hi:i<n*zs.length:=by have:=ak hc; rwa [kR] at this
 rw[RQ zs n i hi] at hc;rw[Ck] at hc hi;refine⟨_,ha i (by omega),?_⟩;obtain⟨u,hu,r⟩:=h.get hc;simp at hu;rw[getElem!_def,hu];exact r
theorem V2 {t:TypeId} {n k:Nat} {ps:Array (Nat × Operand)} {qs:List (Nat × Nat × E)} {zs cs:List AV} (eP:o.op=.buildSlice t n ps) (hh:bV X φ w H) (he:o9 X φ w env a.tmps) (hg:dH c X φ w)
  (hk:im P t k=true) (hz:gQ P t zs=true) (hn:n*k<=16777216) (hq:rM (fun j=>some (j*k,k)) ps.toList qs=true) (hf:oZ c env (rep zs n) qs=some cs) :
  Ok P X φ w o a (.sl k H.length 0 n) (H++[some cs]):=by
 obtain⟨e,i,z,hu,hi,vT,hk0,hby,N5,O8⟩:=iy hk;simp only[gQ,hu] at hz;obtain⟨i',z',ye,HS,dG,_⟩:=ta (X:=X) (φ:=φ) (w:=w) hz;rw[hi] at ye;simp at ye;subst ye;rw[N5] at HS;simp at HS;subst HS;have Ck:zs.length=k:=by have:=dG.1; simp at this; omega
 have DZ:Cs X φ w (rep zs n) ((yE (n*k)).map (z.cells[·%z.cells.size]!)).toList:=by
  refine⟨by rw[kR,Ck]; simp,fun j c v hc hv=>?_⟩;obtain⟨u,h1,h2⟩:=PU dG (n:=n) (m:=n*k) (by rw[O8]; omega) (arr:=(yE (n*k)).map (z.cells[·%z.cells.size]!)) (by simp) (fun i hi=>by simp[hi]) j c hc;rw[eL,h1] at hv;simp at hv;subst hv;exact h2
 obtain⟨arr',e1,e2⟩:=sI he hg hq DZ hf
 have mQ:arr'.size=n*k:=by
  have fl:∀{ps:List (Nat × Nat × E)} {zs cs:List AV},oZ c env zs ps=some cs->cs.length=zs.length:=by
   intro ps
   induction ps with
   |nil=>intro zs cs h; simp[oZ] at h; rw[h]
   |cons p r ih=>
     intro zs cs h;obtain⟨o,s,y⟩:=p;simp only[oZ] at h;split at h
     ·rename_i hc; rw[ih h,fS (by omega)]
     ·cases h
  have h1:=fl hf;have h2:=e2.1;simp only[qX] at h2;rw[<-h2,h1,kR,Ck]
 obtain⟨h1,h2⟩:=tL hh (w1:=w) (arr:=arr') (e:=e) rfl rfl rfl rfl (by rw[e2.1]; simp) (e2.at (by simp));refine Ok.value ?_ (Kw hh.len (aI n) (by omega)) h1 h2;have vP:(DN (fun x=>(x.1,a.eval x.2)) ps).toList=ps.toList.map fun p=>(p.1,a.eval p.2):=by simp
 have Pc : ¬ (n * k > 2 ^ 24) := by have : (2:Nat) ^ 24 = 16777216 := by decide
                                    omega
 have hzero:(if n*i.size=0 then (pure #[]:Sem (Array Value)) else do pure (<- zeroValue e).cells).run P w=.ok (if n*k=0 then #[] else z.cells) w:=by
  rw[vT];split<;>simp[re hi N5]
 have afv:(yE (n*k)).map ((if n*k=0 then #[] else z.cells)[·%(if n*k=0 then #[] else z.cells).size]!)=(yE (n*k)).map (z.cells[·%z.cells.size]!):=by
  by_cases h0:n*k=0
  ·simp[h0]
  ·simp[h0]
 simp only[execOp,eP,Instr.buildSlice,Sem.run_bind,run_underlying hu,Result.andThen_ok,ia hi,vT,Sem.run_ite,Pc,if_false];rw[vT] at hzero;simp only[Sem.run_ite,Sem.run_bind,Sem.run_pure,re hi N5,Result.andThen_ok] at hzero ⊢;have e1':=e1;rw[<-afv,<-vP] at e1';split
 ·rename_i h0;simp only[h0,if_true] at e1' ⊢;simp only[Result.andThen_ok,Array.range_zero',Array.map_empty] at e1' ⊢;rw[show (Instr.fill (fun i=>some (i*k,k)) #[] (DN (fun x=>(x.1,a.eval x.2)) ps).toList)=some arr' from e1'];simp[newRow]
 ·rename_i h0;simp only[h0,if_false,Result.andThen_ok] at e1' ⊢;rw[show (Instr.fill (fun i=>some (i*k,k)) ((yE (n*k)).map (z.cells[·%z.cells.size]!)) (DN (fun x=>(x.1,a.eval x.2)) ps).toList)=some arr' from e1'];simp[newRow]
end
end Go.Am

/- What one operation of the dump does: numbers, tests, slices, append. -/
namespace Go.Am
section
variable {P:Program} {c:dO} {X:Nat->Prop} {φ:cZ} {w:World} {env:Env} {H:Heap} {a:Act} {o:Oper}

theorem aba {x y z:Operand} {t:Bool} {u v:AV} (eP:o.op=.pick x y z) (hh:bV X φ w H) (r:bF (Rd X φ w) φ (.bool t) (a.eval x)) (ru:bF (Rd X φ w) φ u (a.eval y)) (rv:bF (Rd X φ w) φ v (a.eval z)) :
  Ok P X φ w o a (if t then u else v) H:=by
 have hx:=lY r;cases t
 ·exact Ok.quiet (v':=a.eval z) (by simp[execOp,eP,hx,asBool]) (by simpa using rv) hh
 ·exact Ok.quiet (v':=a.eval y) (by simp[execOp,eP,hx,asBool]) (by simpa using ru) hh
theorem RP {R:Addr->Value->Prop} {s:ByteArray} {v:Value} (h:bF R φ (.str s) v):v=.string s:=by cases h; rfl
theorem ae8 {op:BinOp} {t t':TypeId} {x y:Operand} {u v r:AV} (eP:o.op=.binOp op t x y t') (hh:bV X φ w H) (ru:bF (Rd X φ w) φ u (a.eval x)) (rv:bF (Rd X φ w) φ v (a.eval y)) (hr:qT op u v=some r) :
  Ok P X φ w o a r H:=by
 have vw:=hr;unfold qT at vw;split at vw
 ·rename_i k n k' n';have hx:=gE ru;have hy:=gE rv;obtain⟨v',h1,h2⟩:=aaU (P:=P) (w:=w) (t:=t) hr;exact Ok.quiet (v':=v') (by simp[execOp,eP,hx,hy,eqGuard_at_int,h1]) (h2 _ _) hh
 ·rename_i s1 s2;split at vw
  case h_2=>cases vw
  split at vw
  case isFalse=>cases vw
  rename_i hl;simp only[af] at vw;subst vw;have hx:=RP ru;have hy:=RP rv;exact Ok.quiet (v':=.string (s1++s2)) (by simp[execOp,eP,hx,hy,eqGuard_at_string,binOp,run_string_add_sum w s1 s2 (by omega)]) (.str _ _) hh
 ·cases vw

theorem PR (d:Nat) {t e:TypeId} (h:P.underlying t=some (.slice e)) (x:Option Addr) (n m:Nat):(Op.equalIn (d+1) t (.slice x n m) (.slice none 0 0)).run P w=.ok x.isNone w:=by
 cases x<;>simp[Op.equalIn,run_underlying h]
theorem L0 (d:Nat) {t e:TypeId} (h:P.underlying t=some (.pointer e)) (x:Option Addr):(Op.equalIn (d+1) t (.pointer x) (.pointer none)).run P w=.ok x.isNone w:=by
 cases x<;>simp[Op.equalIn,run_underlying h]
theorem PS (d:Nat) {t:TypeId} {ps rs:Array TypeId} {vr:Bool} (h:P.underlying t=some (.func ps rs vr)) (f:Fn) (x y:Array Value):(Op.equalIn (d+1) t (.func f x y) .nilFunc).run P w=.ok false w:=by
 simp[Op.equalIn,run_underlying h]
theorem L3 (d:Nat) {t:TypeId} {ps rs:Array TypeId} {vr:Bool} (h:P.underlying t=some (.func ps rs vr)):(Op.equalIn (d+1) t .nilFunc .nilFunc).run P w=.ok true w:=by
 simp[Op.equalIn,run_underlying h]
theorem aaT {op:BinOp} {ng:Bool} {t:TypeId} {x y:Operand} {u v:Value} {e:Bool} (ho:eqOp op ng=true) (hg:(eqGuard op t x y u v).run P w=.ok () w) (hb:∀op',binOp .eql t u v=(do pure (.bool (<- Op.equal t u v)))/\(op'=BinOp.neq->binOp .neq t u v=(do pure (.bool (!(<- Op.equal t u v))))))
  (h:(Op.equalIn 10000 t u v).run P w=.ok e w):(do eqGuard op t x y u v; binOp op t u v).run P w=.ok (.bool (if ng then !e else e)) w:=by
 have h':(Op.equal t u v).run P w=.ok e w:=by unfold Op.equal Op.maxDepth; exact h
 cases op<;>simp[eqOp] at ho
 ·subst ho;simp only[Sem.run_bind,hg,Result.andThen_ok,(hb .eql).1,h',Sem.run_pure];simp
 ·subst ho;simp only[Sem.run_bind,hg,Result.andThen_ok,(hb .neq).2 rfl,h',Sem.run_pure];simp
theorem ok_eq {op:BinOp} {ng:Bool} {et:Et} {t t':TypeId} {x y:Operand} {u v:AV} {e:Bool} (eP:o.op=.binOp op t x y t') (hh:bV X φ w H) (ho:eqOp op ng=true) (hc:G3 P t et=true) (ru:bF (Rd X φ w) φ u (a.eval x)) (rv:bF (Rd X φ w) φ v (a.eval y)) (hr:WB et u v=some e) :
  Ok P X φ w o a (.bool (if ng then !e else e)) H:=by
 have fin:∀{p q:Value},a.eval x=p->a.eval y=q->(eqGuard op t x y p q).run P w=.ok () w ->
   (∀op',binOp .eql t p q=(do pure (.bool (<- Op.equal t p q)))/\(op'=BinOp.neq->binOp .neq t p q=(do pure (.bool (!(<- Op.equal t p q))))))->(Op.equalIn 10000 t p q).run P w=.ok e w ->
   Ok P X φ w o a (.bool (if ng then !e else e)) H:=by
  intro p q hp hq hg hb h;have:=aaT (x:=x) (y:=y) ho hg hb h;refine Ok.quiet ?_ (.bool _ _) hh;simp only[execOp,eP,hp,hq,Sem.run_bind,Result.andThen_ok,Sem.run_pure] at this ⊢;rw[this];rfl
 unfold WB at hr;split at hr
 ·rename_i b b';simp at hr;subst hr;have hx:=lY ru;have hy:=lY rv;simp only[G3] at hc;split at hc
  ·rename_i hu;refine fin hx hy (by rw[eqGuard_at_bool]; rfl) (fun _=>⟨by simp[binOp],fun _=>by simp[binOp]⟩) ?_;exact run_equalIn_bool w 9999 t b b' hu
  ·cases hc
 ·rename_i l xs ys;generalize hx:a.eval x=p at ru;generalize hy:a.eval y=q at rv;cases ru with
  |agg _ _ vx Cq hrx=>
    cases rv with
    |agg _ _ vy Cp hry=>
      simp only[G3] at hc;split at hc
      ·rename_i fs hu;simp only[ae,bt] at hc;obtain⟨⟨Pf,El⟩,hc3⟩:=hc;have hfo:P.fieldsOf t=fs:=by simp[Program.fieldsOf,hu]
       refine fin hx hy (run_eqGuard_agg w op t x y vx vy El) (fun _=>⟨by simp[binOp],fun _=>by simp[binOp]⟩) ?_;rw[show (10000:Nat)=9999+1 from rfl,run_equalIn_struct w 9999 t vx vy (by rw[hu,hfo]) Pf,hfo];exact tT 9998 fs.toList l 0 xs ys vx vy e hc3 (by simpa using hr) Cq Cp hrx hry
      ·cases hc
 ·generalize hy:a.eval y=q at rv;cases rv;simp only[G3] at hc;split at hc
  ·rename_i el hu
   have sl:∀{ad:Option Addr} {n m:Nat},a.eval x=.slice ad n m->ad.isNone=e->Ok P X φ w o a (.bool (if ng then !e else e)) H:=by
    intro ad n m hx he;subst he;exact fin hx hy (by rw[eqGuard_at_slice]; rfl) (fun _=>⟨by simp[binOp],fun _=>by simp[binOp]⟩) (PR 9999 hu ad n m)
   generalize hx:a.eval x=p at ru;cases ru<;>simp[isNil] at hr
   case dp=>exact sl hx (by simpa using hr)
   case sl=>exact sl hx (by simpa using hr)
   case vO xs _ _ _ _ _ _ _ _ _=>
    cases xs<;>simp[isNil] at hr
    exact sl hx (by simpa using hr)
  ·cases hc
 ·generalize hy:a.eval y=q at rv;cases rv;simp only[G3] at hc;split at hc
  ·rename_i el hu
   have pt:∀{ad:Option Addr},a.eval x=.pointer ad->ad.isNone=e->Ok P X φ w o a (.bool (if ng then !e else e)) H:=by
    intro ad hx he;subst he;exact fin hx hy (by rw[eqGuard_at_pointer]; rfl) (fun _=>⟨by cases ad<;>simp[binOp],fun _=>by cases ad<;>simp[binOp]⟩) (L0 9999 hu ad)
   generalize hx:a.eval x=p at ru;cases ru<;>simp[isNil] at hr
   case fo=>exact pt hx (by simpa using hr)
   case ptr=>exact pt hx (by simpa using hr)
   case dh=>exact pt hx (by simpa using hr)
  ·cases hc
 ·generalize hy:a.eval y=q at rv;cases rv;simp only[G3] at hc;split at hc
  ·rename_i ps rs vr hu;generalize hx:a.eval x=p at ru;cases ru
   case fv=>simp[isNil] at hr; subst hr; exact fin hx hy (by rw[eqGuard_at_nilFunc]; rfl) (fun _=>⟨by simp[binOp],fun _=>by simp[binOp]⟩) (L3 9999 hu)
   case func f as va bs vb hyy _ _ _ _=>simp[isNil,hyy] at hr; subst hr; exact fin hx hy (by rw[eqGuard_at_func]; rfl) (fun _=>⟨by simp[binOp],fun _=>by simp[binOp]⟩) (PS 9999 hu _ _ _)
   all_goals (simp[isNil,An] at hr; done)
  ·cases hc
 ·cases hr
theorem ag5 {op:UnOp} {t:TypeId} {x:Operand} {u r:AV} (eP:o.op=.unOp op t x) (hh:bV X φ w H) (ru:bF (Rd X φ w) φ u (a.eval x)) (hr:PE op u=some r):Ok P X φ w o a r H:=by
 unfold PE at hr;split at hr
 ·have hx:=gE ru;simp at hr; subst hr;exact Ok.quiet (v':=.int _ _) (by simp[execOp,eP,hx,Op.unary,Op.intArith]) (.int _ _ _) hh
 ·have hx:=gE ru;simp at hr; subst hr;exact Ok.quiet (by simp[execOp,eP,hx,Op.unary,intBits_xor]) (.int _ _ _) hh
 ·have hx:=lY ru;simp at hr; subst hr;exact Ok.quiet (by simp[execOp,eP,hx,Op.unary]) (.bool _ _) hh
 ·cases hr
theorem ae5 {s d:TypeId} {x:Operand} {k k':IntKind} {n:Int} (eP:o.op=.convert s d x) (hh:bV X φ w H) (hs:(P.underlying s).isSome=true) (hd:P.underlying d=some (.int k)) (ru:bF (Rd X φ w) φ (.int k' n) (a.eval x)) :
  Ok P X φ w o a (.int k (k.wrap n)) H:=by
 have hx:=gE ru;obtain⟨d',hd'⟩:=aR.mp hs;exact Ok.quiet (by simp[execOp,eP,hx,convert,run_underlying hd',run_underlying hd,Conv.intToInt]) (.int _ _ _) hh
theorem aeT {fn:Fn} {as bs:Array Operand} {xs ys:List E} (eP:o.op=.makeFunc fn as bs) (hh:bV X φ w H) (he:o9 X φ w env a.tmps) (hg:dH c X φ w) (ha:iz as.toList xs=true) (hb:iz bs.toList ys=true) (hy:An fn=false) :
  Ok P X φ w o a (.func fn (En c env xs) (En c env ys)) H:=by
 obtain⟨l1,h1⟩:=nH he hg ha;obtain⟨l2,h2⟩:=nH he hg hb;refine Ok.quiet (v':=.func fn (as.map a.eval) (bs.map a.eval)) (by simp[execOp,eP,Instr.makeFunc]) (.func _ _ _ _ _ _ hy (by simp[l1]) (by simp[l2]) (fun i c v hc hv=>h1 i c v hc ?_) (fun i c v hc hv=>h2 i c v hc ?_)) hh
 ·simpa using hv
 ·simpa using hv
theorem aeS {t:TypeId} {k:Nat} {zs:List AV} {x y:Operand} {k1 k2:IntKind} {l cp:Int} (eP:o.op=.makeSlice t x y) (hh:bV X φ w H) (hk:im P t k=true) (hz:gQ P t zs=true)
  (rx:bF (Rd X φ w) φ (.int k1 l) (a.eval x)) (ry:bF (Rd X φ w) φ (.int k2 cp) (a.eval y)) (h0:0<=l) (h1:l<=cp) (h2:cp<=(mN:Int)) :
  Ok P X φ w o a (.sl k H.length 0 l.toNat) (H++[some (rep zs l.toNat)]):=by
 obtain⟨e,i,z,hu,hi,vT,hk0,hby,N5,O8⟩:=iy hk;simp only[gQ,hu] at hz;obtain⟨i',z',ye,HS,dG,_⟩:=ta (X:=X) (φ:=φ) (w:=w) hz;rw[hi] at ye;simp at ye;subst ye;rw[N5] at HS;simp at HS;subst HS;have Ck:zs.length=k:=by have:=dG.1; simp at this; omega
 have hx:=gE rx;have hy:=gE ry;have hL:(mN:Int)=4294967296:=rfl
 have hb:(i.bytes:Int)*cp<=281474976710656:=by
  have h3:(i.bytes:Int)*cp<=1024*4294967296:=Int.mul_le_mul (by omega) (by omega) (by omega) (by omega);omega
 have oT:=run_make (P:=P) w t e i z hu hi N5 k1 k2 l cp h0 h1 hb (by omega);have hlc:l.toNat<=cp.toNat:=by omega
 have KM:l.toNat * k<=cp.toNat * k:=bN _ hlc;have hms:(madeCells z.cells (cp.toNat * i.size)).size=cp.toNat * k:=by rw[size_madeCells,vT]
 obtain⟨q1,q2⟩:=tL hh (w1:=w) (arr:=madeCells z.cells (cp.toNat * i.size)) (e:=e) (cs:=rep zs l.toNat) rfl rfl rfl rfl (by rw[kR,hms,Ck]; exact KM)
  (PU dG (m:=cp.toNat * k) (by rw[O8]; exact KM) hms (fun j hj=>by rw[vT]; simp[madeCells,hj]))
 refine Ok.value (v':=.slice (some ⟨w.heap.size,0,none⟩) l.toNat cp.toNat) ?_ (Kw hh.len hlc (by rw[hms]; exact aI _)) q1 q2;simp only[execOp,eP,hx,hy,Sem.run_bind,oT,Result.andThen_ok,Sem.run_pure]

theorem aat {x:AV} {hi n:Nat} (h:bnd x hi=some n):∃k i,x=.int k i/\0<=i/\i<=(hi:Int)/\n=i.toNat:=by
 unfold bnd at h;split at h
 ·rename_i k i;split at h
  ·rename_i hc; simp at h; exact⟨k,i,rfl,hc.1,hc.2,h.symm⟩
  ·cases h
 ·cases h
theorem wY {x:AV} {len j:Nat} (h:idx x len=some j):∃k i,x=.int k i/\0<=i/\i<(len:Int)/\j=i.toNat/\j<len:=by
 unfold idx at h;split at h
 ·rename_i k i;split at h
  ·rename_i hc; simp at h; exact⟨k,i,rfl,hc.1,hc.2,h.symm,by omega⟩
  ·cases h
 ·cases h
theorem run_sliceBound {k:IntKind} {i:Int} {y:Nat} {cd:BoundsCode} (h0:0<=i) (h1:i<=(y:Int)):(Instr.sliceBound (.int k i) y cd).run P w=.ok i.toNat w:=by
 simp[Instr.sliceBound,asIntOf,h0,h1]
theorem wc (he:o9 X φ w env a.tmps) (hg:dH c X φ w) {x:Operand} {y:E} {n m cap:Nat} {cd:BoundsCode} (hx:cM x y=true) (hn:n<=cap) (h:bnd (ev c env y) n=some m) :
  (Instr.sliceBound (a.eval x) cap cd).run P w=.ok m w/\m<=n:=by
 obtain⟨k,i,e1,e2,e3,e4⟩:=aat h;have r:=bO (a:=a) he hg hx;rw[e1] at r;rw[gE r,e4];exact⟨run_sliceBound e2 (by omega),by omega⟩
theorem ES (he:o9 X φ w env a.tmps) (hg:dH c X φ w) {lo hi:Option Operand} {lo' ye:Option E} {n cap h l:Nat} (hlo:rP lo lo'=true) (Wo:rP hi ye=true) (hn:n<=cap)
  (hh:Bw c env n n ye=some h) (hl:Bw c env 0 h lo'=some l):(Instr.sliceBounds true n cap (lo.map a.eval) (hi.map a.eval) none).run P w=.ok (l,h,cap) w/\l<=h/\h<=n:=by
 cases lo<;>cases lo'<;>simp only[rP] at hlo<;>try (cases hlo; done)
 all_goals
  cases hi<;>cases ye<;>simp only[rP] at Wo<;>try (cases Wo; done)
 all_goals simp only[Bw] at hh hl
 ·simp at hh hl;subst hh; subst hl;exact⟨by simp[Instr.sliceBounds],by omega,aI _⟩
 ·obtain⟨h1,h2⟩:=wc (P:=P) (cd:=.sliceAcap) he hg Wo hn hh;simp at hl;subst hl;exact⟨by simp[Instr.sliceBounds,h1],by omega,h2⟩
 ·simp at hh;subst hh;obtain⟨h1,h2⟩:=wc (P:=P) (cd:=.sliceB) he hg hlo (aI _) hl;exact⟨by simp[Instr.sliceBounds,h1],h2,aI _⟩
 ·obtain⟨h1,h2⟩:=wc (P:=P) (cd:=.sliceAcap) he hg Wo hn hh;obtain⟨h3,h4⟩:=wc (P:=P) (cd:=.sliceB) he hg hlo (aI _) hl;exact⟨by simp[Instr.sliceBounds,h1,h3],h4,h2⟩
theorem aaR {t e:TypeId} {i:TypeInfo} (hu:P.underlying t=some (.slice e)) (hi:P.info? e=some i) {ad:Option Addr} {n cap l h:Nat} {lo ye:Option Value} (hb:(Instr.sliceBounds true n cap lo ye none).run P w=.ok (l,h,cap) w) :
  (Instr.sliceAt t (.slice ad n cap) lo ye none).run P w=.ok (.slice (if cap=l then ad else ad.map (·.add (l*i.size))) (h-l) (cap-l)) w:=by
 simp only[Instr.sliceAt,Instr.slice,Sem.run_bind,run_underlying hu,Result.andThen_ok,hb,ia hi,Sem.run_pure]
theorem aeQ {t:TypeId} {k:Nat} {x:Operand} {y:E} {lo hi:Option Operand} {lo' ye:Option E} {v:AV} {H':Heap} {fl:Fp} {call:Nat->List AV->Heap->Option (AV × Heap)} (eP:o.op=.slice t x lo hi none) (hh:bV X φ w H) (he:o9 X φ w env a.tmps) (hg:dH c X φ w)
  (hk:im P t k=true) (hx:cM x y=true) (hlo:rP lo lo'=true) (Wo:rP hi ye=true) (hs:fu c call env H (.EN k y lo' ye)=some (v,H',fl)):Ok P X φ w o a v H':=by
 obtain⟨e,i,z,hu,QA,vT,hk0,hby,N5,O8⟩:=iy hk;have r:=bO (a:=a) he hg hx;simp only[fu] at hs;split at hs
 case h_2=>cases hs
 rename_i n hn;split at hs
 case h_2=>cases hs
 rename_i h hhv;split at hs
 case h_2=>cases hs
 rename_i l hlv
 have fin:∀{ad:Option Addr} {cap:Nat},a.eval x=.slice ad n cap->n<=cap->l<=h->h<=n->(l<=h->h<=n->bF (Rd X φ w) φ v (.slice (if cap=l then ad else ad.map (·.add (l*k))) (h-l) (cap-l)))->H'=H->Ok P X φ w o a v H':=by
  intro ad cap Pg hnc _ _ hr hH;obtain⟨h1,h2,h3⟩:=ES (P:=P) he hg hlo Wo hnc hhv hlv;have:=aaR (P:=P) hu QA (ad:=ad) h1;rw[vT] at this;subst hH;exact Ok.quiet (by simp only[execOp,eP,Pg,D5,Sem.run_bind,this,Result.andThen_ok,Sem.run_pure]) (hr h2 h3) hh
 have le:∀cap,n<=cap->l<=h/\h<=n:=fun cap hc=>(ES (P:=P) he hg hlo Wo hc hhv hlv).2;obtain⟨hlh,hhn⟩:=le n (aI _);generalize hy:ev c env y=yv at hs r hn;cases yv<;>simp only[Y9,af] at hn<;>try (cases hn; done)
 ·subst hn;simp at hs;obtain⟨rfl,rfl,rfl⟩:=hs;generalize Pg:a.eval x=ax at r;cases r;have hh0:h=0:=by omega
  have hl0:l=0:=by omega
  subst hh0; subst hl0;exact fin Pg (aI _) (aI _) (aI _) (fun _ _=>by simp; exact .dp _) rfl
 ·rename_i k' xs;simp only at hs;split at hs
  case isFalse=>cases hs
  rename_i tP;subst tP;simp at hs;obtain⟨rfl,rfl,rfl⟩:=hs;generalize Pg:a.eval x=ax at r;cases r with
  |vO _ _ _ ad n' cap u Pc iP hkc hur hr=>
    subst hn;subst Pc;refine fin Pg iP hlh hhn (fun _ _=>?_) rfl;have hlen:((xs.take h).drop l).length=h-l:=by simp; omega
    by_cases LC:cap=l
    ·have h0:(xs.take h).drop l=[]:=dI (by omega);rw[if_pos LC,h0];refine .vO _ _ _ _ _ _ u (by simp; omega) (by omega) (by simp) (fun i j x c hx=>by simp at hx) (fun i j x c hx=>by simp at hx)
    ·rw[if_neg LC]
     have get:∀(i:Nat) (x:AV),((xs.take h).drop l)[i]?=some x->xs[l+i]?=some x:=by
      intro i x hx;rw[aW,bE] at hx;split at hx
      ·exact hx
      ·cases hx
     refine .vO _ _ _ _ _ _ (fun i j=>u (l+i) j) hlen.symm (by omega) (fun x hx=>?_) (fun i j x c hx hc=>?_) (fun i j x c hx hc=>hr (l+i) j x c (get i x hx) hc)
     ·obtain⟨i,hi⟩:=bz hx;exact hkc x (bf (get i x hi))
     ·have:=hur (l+i) j x c (get i x hx) hc;rw[Addr.add_add]
      rwa [show l*k'+(i*k'+j)=(l+i)*k'+j by rw[ct]; omega]
  |j7=>
    simp at hn;subst hn;have hh0:h=0:=by omega
    have hl0:l=0:=by omega
    subst hh0; subst hl0;exact fin Pg (aI _) (aI _) (aI _) (fun _ _=>by simp; exact .j7 _ _) rfl
 ·rename_i k' b off len;simp only at hs;split at hs
  case isFalse=>cases hs
  rename_i tP;subst tP;simp at hs;obtain⟨rfl,rfl,rfl⟩:=hs;subst hn;generalize Pg:a.eval x=ax at r;cases r with
  |sl _ _ _ _ _ ad cap hb hc hp=>
    refine fin Pg hc hlh hhn (fun _ _=>?_) rfl;have e:(if cap=l then (some ad:Option Addr) else Option.map (·.add (l*k')) (some ad))=some (if cap=l then ad else ad.add (l*k')):=by split<;>simp
    rw[e];refine .sl _ _ _ _ _ _ _ hb (by omega) fun g sz hg=>?_;obtain⟨h1,h2⟩:=hp g sz hg;have hmul:l*k'+(cap-l)*k'=cap*k':=by rw[<-ct]; congr 1; omega
    refine⟨fun h0=>?_,by omega⟩;rw[if_neg (by omega),h1 (by omega),Addr.iq]

theorem LH.drop {cs:List AV} {ad:Addr} (h:LH X φ w cs ad) (n:Nat):LH X φ w (cs.drop n) (ad.add n):=by
 intro j x hx;rw[aW] at hx;rw[Addr.add_add];exact h _ _ hx
theorem Jx {cs:List AV} {v:Value} (h:bF (Rd X φ w) φ (.dh cs) v) (n:Nat):∃ad,v=.pointer (some ad)/\bF (Rd X φ w) φ (.dh (cs.drop n)) (.pointer (some (ad.add n))):=by
 cases h with
 |dh _ _ ad u hu h=>
   refine⟨ad,rfl,.dh _ _ _ (fun j=>u (n+j)) (fun j c hc=>?_) (fun j c hc=>?_)⟩
   ·rw[aW] at hc;rw[Addr.add_add];exact hu _ _ hc
   ·rw[aW] at hc;exact h _ _ hc
theorem Tc {b off:Nat} {v:Value} (h:bF (Rd X φ w) φ (.ptr b off) v) (n:Nat):∃ad,v=.pointer (some ad)/\bF (Rd X φ w) φ (.ptr b (off+n)) (.pointer (some (ad.add n))):=by
 cases h with
 |ptr _ _ _ ad hb h=>
   refine⟨ad,rfl,.ptr _ _ _ _ hb fun g sz hg=>?_⟩;obtain⟨rfl,h0⟩:=h g sz hg;exact⟨by rw[Addr.iq],h0⟩

theorem Xz (he:o9 X φ w env a.tmps) (hg:dH c X φ w) {hi:Option Operand} {ye:Option E} {n h:Nat} (Wo:rP hi ye=true) (hh:Bw c env n n ye=some h):(Instr.sliceBounds false n n none (hi.map a.eval) none).run P w=.ok (0,h,n) w/\h<=n:=by
 cases hi<;>cases ye<;>simp only[rP] at Wo<;>try (cases Wo; done)
 all_goals simp only[Bw] at hh
 ·simp at hh;subst hh;exact⟨by simp[Instr.sliceBounds],aI _⟩
 ·obtain⟨h1,h2⟩:=wc (P:=P) (cd:=.sliceAlen) he hg Wo (aI _) hh;exact⟨by simp[Instr.sliceBounds,h1],h2⟩
theorem ae9 {t:TypeId} {n:Nat} {x:Operand} {y:E} {hi:Option Operand} {ye:Option E} {v:AV} {H':Heap} {fl:Fp} {call:Nat->List AV->Heap->Option (AV × Heap)} (eP:o.op=.slice t x none hi none) (hh:bV X φ w H) (he:o9 X φ w env a.tmps) (hg:dH c X φ w) (Wo:rP hi ye=true) (r:bF (Rd X φ w) φ (ev c env y) (a.eval x))
  (hk:(match P.underlying t with
  |some (.array n' e)=>decide (n=n')&&nk P e 1
  |_=>false)=true) (hs:fu c call env H (.Ic n y ye)=some (v,H',fl)):Ok P X φ w o a v H':=by
 split at hk
 case h_2=>cases hk
 rename_i n' e hu;simp only[ae,decide_eq_true_eq] at hk;obtain⟨rfl,mQ⟩:=hk;unfold nk at mQ;split at mQ
 case h_2=>cases mQ
 rename_i i QA;simp only[fu] at hs;split at hs
 case h_2=>cases hs
 rename_i m hm;obtain⟨bd,Ej⟩:=Xz (P:=P) he hg Wo hm;split at hs
 case h_3=>cases hs
 case h_2=>
  rename_i b off hy;split at hs
  case h_2=>cases hs
  rename_i cs hb;split at hs
  case isFalse=>cases hs
  rename_i hc;simp at hs;obtain⟨rfl,rfl,rfl⟩:=hs;rw[hy] at r;generalize Pg:a.eval x=ax at r;cases r with
  |ptr _ _ _ ad Uh hp=>
    have e0:(if n=0 then ad else ad.add (0*i.size))=ad:=by
     split
     ·rfl
     ·simp[Addr.add]
    have run:(execOp a.eval o).run P w=.ok (.value (.slice (some ad) m n)) w:=by
     simp only[execOp,eP,Pg,D5,Instr.sliceAt,Instr.sureAddr,Sem.run_bind,run_underlying hu,Result.andThen_ok,bd,ia QA,Sem.run_pure,e0,Pm]
    refine Ok.quiet run ?_ hh;obtain⟨g,sz,arr,e,h1,h2,h3,h4,_⟩:=hh.cat hb fun g sz hg=>(hp g sz hg).2;refine .sl _ _ _ _ _ _ _ Uh Ej fun g' pe hg=>?_;rw[h1] at hg;simp only[af,aB] at hg;obtain⟨rfl,rfl⟩:=hg;exact⟨fun _=>(hp _ _ h1).1,by omega⟩
 rename_i cs hy;split at hs
 case isFalse=>cases hs
 rename_i hc;obtain⟨Pf,rfl,El⟩:=hc;have hc:m<=cs.length/\bq (cs.take m)=true:=⟨Pf,El⟩;simp at hs;obtain⟨rfl,rfl,rfl⟩:=hs;rw[hy] at r;generalize Pg:a.eval x=ax at r;cases r with
 |dh _ _ ad u KJ hr=>
   have e0:(if m=0 then ad else ad.add (0*i.size))=ad:=by
    split
    ·rfl
    ·simp[Addr.add]
   have run:(execOp a.eval o).run P w=.ok (.value (.slice (some ad) m m)) w:=by
    simp only[execOp,eP,Pg,D5,Instr.sliceAt,Instr.sureAddr,Sem.run_bind,run_underlying hu,Result.andThen_ok,bd,ia QA,Sem.run_pure,e0,Pm]
   refine Ok.quiet run ?_ hh
   have get:∀{k:Nat} {c:AV},(cs.take m)[k]?=some c->cs[k]?=some c/\c.leaf=true:=by
    intro k c h;refine⟨?_,xm hc.2 k c h⟩;rw[bE] at h;split at h
    ·exact h
    ·cases h
   have one:∀{c:AV},c.leaf=true->c.cells=[c]:=by
    intro c h;cases c<;>simp[AV.leaf] at h<;>rfl
   refine .vO _ 1 _ ad m m (fun k _=>u k) (by simp; omega) (aI _) (fun c hm=>?_) (fun k j c d h1 h2=>?_) (fun k j c d h1 h2=>?_)
   ·obtain⟨k,hk⟩:=bz hm;rw[one (get hk).2]; rfl
   ·rw[one (get h1).2] at h2;cases j with
    |zero=>simp at h2; subst h2; simpa using KJ k c (get h1).1
    |succ j=>simp at h2
   ·rw[one (get h1).2] at h2;cases j with
    |zero=>simp at h2; subst h2; exact hr k c (get h1).1
    |succ j=>simp at h2
theorem ae2 {s:TypeId} {f off:Nat} {x:Operand} {y:E} {v:AV} {H':Heap} {fl:Fp} {call:Nat->List AV->Heap->Option (AV × Heap)} (eP:o.op=.fieldAddr s x f) (hh:bV X φ w H) (r:bF (Rd X φ w) φ (ev c env y) (a.eval x))
  (hk:(match P.underlying s with
  |some (.struct fs)=>match fs[f]? with
    |some fd=>decide (fd.offset=off)&&(match P.info? fd.type with
      |some i=>decide (i.size≠0)
      |none=>false)
    |none=>false
  |_=>false)=true) (hs:fu c call env H (.yn off y)=some (v,H',fl)):Ok P X φ w o a v H':=by
 split at hk
 case h_2=>cases hk
 rename_i fs hu;split at hk
 case h_2=>cases hk
 rename_i fd hf;simp only[ae,decide_eq_true_eq] at hk;obtain⟨KL,mQ⟩:=hk;split at mQ
 case h_2=>cases mQ
 rename_i i hi;have hsz':¬i.size=0:=by simpa using mQ
 have run:∀{ad:Addr},a.eval x=.pointer (some ad)->(execOp a.eval o).run P w=.ok (.value (.pointer (some (ad.add off)))) w:=by
  intro ad hx;simp only[execOp,eP,hx,Instr.fieldAt,Sem.run_bind,run_underlying hu,Result.andThen_ok,hf,Instr.sureAddr,Sem.run_pure,fieldPlace,ia hi,hsz',if_false,KL]
 simp only[fu] at hs;split at hs
 ·rename_i b off' hy;simp at hs;obtain⟨rfl,rfl,rfl⟩:=hs;rw[hy] at r;obtain⟨ad,h1,h2⟩:=Tc r off;exact Ok.quiet (run h1) h2 hh
 ·rename_i cs hy;simp at hs;obtain⟨rfl,rfl,rfl⟩:=hs;rw[hy] at r;obtain⟨ad,h1,h2⟩:=Jx r off;exact Ok.quiet (run h1) h2 hh
 ·cases hs
theorem ae1 {s:TypeId} {f off:Nat} {ag:Option Nat} {x:Operand} {y:E} {v:AV} {H':Heap} {fl:Fp} {call:Nat->List AV->Heap->Option (AV × Heap)} (eP:o.op=.field s x f) (hh:bV X φ w H) (r:bF (Rd X φ w) φ (ev c env y) (a.eval x))
  (hk:(match P.underlying s with
  |some (.struct fs)=>match fs[f]? with
    |some fd=>decide (fd.offset=off)&&decide (kD P fd.type=some ag)
    |none=>false
  |_=>false)=true) (hs:fu c call env H (.Wy off ag y)=some (v,H',fl)):Ok P X φ w o a v H':=by
 split at hk
 case h_2=>cases hk
 rename_i fs hu;split at hk
 case h_2=>cases hk
 rename_i fd hf;simp only[ae,decide_eq_true_eq] at hk;obtain⟨KL,Bf⟩:=hk;simp only[fu] at hs;split at hs
 case h_2=>cases hs
 rename_i cs hy;split at hs
 case h_2=>cases hs
 rename_i u KJ;simp at hs;obtain⟨rfl,rfl,rfl⟩:=hs;rw[hy] at r;generalize hx:a.eval x=ax at r;cases r with
 |agg _ _ vs hl hr=>
   obtain⟨v',h1,h2⟩:=To Bf hl hr KJ;refine Ok.quiet ?_ h2 hh;simp only[execOp,eP,hx,Instr.field,Sem.run_bind,run_underlying hu,Result.andThen_ok,hf,asAgg,Sem.run_pure,KL,h1]
theorem RM {t e:TypeId} {i:TypeInfo} (hu:P.underlying t=some (.slice e)) (hi:P.info? e=some i) {ad:Addr} {n cap:Nat} {k:IntKind} {j:Int} (h0:0<=j) (h1:j<(n:Int)) :
  (Instr.indexAt t (.slice (some ad) n cap) (.int k j)).run P w=.ok (.pointer (some (ad.add (j.toNat * i.size)))) w:=by
 simp[Instr.indexAt,asIntOf,run_underlying hu,h0,h1,ia hi]
theorem aaS {t e:TypeId} {i:TypeInfo} {n:Nat} (hu:P.underlying t=some (.array n e)) (hi:P.info? e=some i) {ad:Addr} {k:IntKind} {j:Int} (h0:0<=j) (h1:j<(n:Int)) :
  (Instr.indexAt t (.pointer (some ad)) (.int k j)).run P w=.ok (.pointer (some (ad.add (j.toNat * i.size)))) w:=by
 simp[Instr.indexAt,asIntOf,Instr.sureAddr,run_underlying hu,h0,h1,ia hi]
theorem aeZ {t:TypeId} {k:Nat} {x xi:Operand} {y yi:E} {v:AV} {H':Heap} {fl:Fp} {call:Nat->List AV->Heap->Option (AV × Heap)} (eP:o.op=.indexAddr t x xi) (hh:bV X φ w H) (r:bF (Rd X φ w) φ (ev c env y) (a.eval x))
  (ri:bF (Rd X φ w) φ (ev c env yi) (a.eval xi)) (hk:im P t k=true) (hs:fu c call env H (.sU k y yi)=some (v,H',fl)):Ok P X φ w o a v H':=by
 obtain⟨e,i,z,hu,QA,vT,hk0,hby,N5,O8⟩:=iy hk;simp only[fu] at hs;split at hs
 ·rename_i k' xs hy;split at hs
  case h_2=>cases hs
  rename_i j hj;obtain⟨kk,ii,e1,e2,e3,e4,e5⟩:=wY hj;split at hs
  case isFalse=>cases hs
  rename_i tP;subst tP;split at hs
  case h_2=>cases hs
  rename_i el hel;simp at hs;obtain⟨rfl,rfl,rfl⟩:=hs;rw[e1] at ri;have Zv:=gE ri;rw[hy] at r;generalize hx:a.eval x=ax at r;cases r with
  |vO _ _ _ ad n cap u hn iP hkc hur hr=>
    have oT:=RM (P:=P) (w:=w) hu QA (ad:=ad) (n:=n) (cap:=cap) (k:=kk) e2 (by omega);refine Ok.quiet (v':=.pointer (some (ad.add (ii.toNat * i.size)))) (by simp only[execOp,eP,hx,Zv,Sem.run_bind,oT,Result.andThen_ok,Sem.run_pure]) (.dh _ _ _ (fun m=>u j m) (fun m c hc=>?_) (fun m c hc=>hr j m el c hel hc)) hh;rw[Addr.add_add,vT,<-e4];exact hur j m el c hel hc
  |j7=>simp at hel
 ·rename_i k' b off len hy;split at hs
  case h_2=>cases hs
  rename_i j hj;obtain⟨kk,ii,e1,e2,e3,e4,e5⟩:=wY hj;split at hs
  case isFalse=>cases hs
  rename_i tP;subst tP;simp at hs;obtain⟨rfl,rfl,rfl⟩:=hs;rw[e1] at ri;have Zv:=gE ri;rw[hy] at r;generalize hx:a.eval x=ax at r;cases r with
  |sl _ _ _ _ _ ad cap hb hc hp=>
    have oT:=RM (P:=P) (w:=w) hu QA (ad:=ad) (n:=len) (cap:=cap) (k:=kk) e2 (by omega);refine Ok.quiet (v':=.pointer (some (ad.add (ii.toNat * i.size)))) (by simp only[execOp,eP,hx,Zv,Sem.run_bind,oT,Result.andThen_ok,Sem.run_pure]) (.ptr _ _ _ _ hb fun g sz hg=>?_) hh;obtain⟨q1,q2⟩:=hp g sz hg;exact⟨by rw[q1 (by omega),Addr.iq,vT,e4],by omega⟩
 ·cases hs
theorem aeY {t:TypeId} {n k:Nat} {x xi:Operand} {y yi:E} {v:AV} {H':Heap} {fl:Fp} {call:Nat->List AV->Heap->Option (AV × Heap)} (eP:o.op=.indexAddr t x xi) (hh:bV X φ w H) (r:bF (Rd X φ w) φ (ev c env y) (a.eval x))
  (ri:bF (Rd X φ w) φ (ev c env yi) (a.eval xi)) (hk:(match P.underlying t with
  |some (.array n' e)=>decide (n=n')&&nk P e k
  |_=>false)=true) (hs:fu c call env H (.DU n k y yi)=some (v,H',fl)):Ok P X φ w o a v H':=by
 split at hk
 case h_2=>cases hk
 rename_i n' e hu;simp only[ae,decide_eq_true_eq] at hk;obtain⟨rfl,mQ⟩:=hk;unfold nk at mQ;split at mQ
 case h_2=>cases mQ
 rename_i i hi;have vT:i.size=k:=by simpa using mQ
 simp only[fu] at hs;split at hs
 case h_2=>cases hs
 rename_i j hj;obtain⟨kk,ii,e1,e2,e3,e4,e5⟩:=wY hj;rw[e1] at ri;have Zv:=gE ri
 have run:∀{ad:Addr},a.eval x=.pointer (some ad)->(execOp a.eval o).run P w=.ok (.value (.pointer (some (ad.add (j*k))))) w:=by
  intro ad hx;have oT:=aaS (P:=P) (w:=w) hu hi (ad:=ad) (k:=kk) e2 e3;simp only[execOp,eP,hx,Zv,Sem.run_bind,oT,Result.andThen_ok,Sem.run_pure,vT,e4]
 split at hs
 ·rename_i b off hy;simp at hs;obtain⟨rfl,rfl,rfl⟩:=hs;rw[hy] at r;obtain⟨ad,h1,h2⟩:=Tc r (j*k);exact Ok.quiet (run h1) h2 hh
 ·rename_i cs hy;simp at hs;obtain⟨rfl,rfl,rfl⟩:=hs;rw[hy] at r;obtain⟨ad,h1,h2⟩:=Jx r (j*k);exact Ok.quiet (run h1) h2 hh
 ·cases hs
theorem ag7 {t:TypeId} {n k:Nat} {ag:Option Nat} {x xi:Operand} {y yi:E} {v:AV} {H':Heap} {fl:Fp} {call:Nat->List AV->Heap->Option (AV × Heap)} (eP:o.op=.index t x xi) (hh:bV X φ w H) (r:bF (Rd X φ w) φ (ev c env y) (a.eval x))
  (ri:bF (Rd X φ w) φ (ev c env yi) (a.eval xi)) (hk:(match P.underlying t with
  |some (.array n' e)=>decide (n=n')&&nk P e k&&decide (kD P e=some ag)
  |_=>false)=true) (hs:fu c call env H (.ix n k ag y yi)=some (v,H',fl)):Ok P X φ w o a v H':=by
 split at hk
 case h_2=>cases hk
 rename_i n' e hu;simp only[ae,decide_eq_true_eq] at hk;obtain⟨⟨rfl,mQ⟩,Bf⟩:=hk;unfold nk at mQ;split at mQ
 case h_2=>cases mQ
 rename_i i hi;have vT:i.size=k:=by simpa using mQ
 simp only[fu] at hs;split at hs
 case h_2=>cases hs
 rename_i j hj;obtain⟨kk,ii,e1,e2,e3,e4,e5⟩:=wY hj;rw[e1] at ri;have Zv:=gE ri;split at hs
 case h_2=>cases hs
 rename_i cs hy;split at hs
 case h_2=>cases hs
 rename_i u KJ;simp at hs;obtain⟨rfl,rfl,rfl⟩:=hs;rw[hy] at r;generalize hx:a.eval x=ax at r;cases r with
 |agg _ _ vs hl hr=>
   obtain⟨v',h1,h2⟩:=To Bf hl hr KJ;refine Ok.quiet ?_ h2 hh;rw[e4] at h1;simp only[execOp,eP,hx,Zv,Instr.index,asIntOf,Sem.run_bind,Sem.run_pure,run_underlying hu,Result.andThen_ok,e2,e3,and_self,if_true,ia hi,vT,h1]
theorem ae3 {x:Operand} {i:Nat} {vs:List AV} {v:AV} (eP:o.op=.extract x i) (hh:bV X φ w H) (r:bF (Rd X φ w) φ (.dF vs) (a.eval x)) (hv:vs[i]?=some v):Ok P X φ w o a v H:=by
 generalize hx:a.eval x=ax at r;cases r with
 |dF _ _ us hl hr=>
   obtain⟨u,hu⟩:=bW (l:=us) (i:=i) (by have:=ak hv; omega);exact Ok.quiet (by simp only[execOp,eP,hx,Instr.extract,hu,Sem.run_bind,Sem.run_pure,Result.andThen_ok]) (hr i v u hv hu) hh
theorem Ys {x:Operand} {y:E} {v:AV} {H':Heap} {fl:Fp} {call:Nat->List AV->Heap->Option (AV × Heap)} (eP:o.op=.nilCheck x) (hh:bV X φ w H) (r:bF (Rd X φ w) φ (ev c env y) (a.eval x))
  (hs:fu c call env H (.mB y)=some (v,H',fl)):Ok P X φ w o a v H':=by
 simp only[fu] at hs;split at hs
 ·rename_i b off hy;simp at hs;obtain⟨rfl,rfl,rfl⟩:=hs;rw[hy] at r;generalize hx:a.eval x=ax at r;have r':=r;cases r;exact Ok.quiet (by simp only[execOp,eP,hx,Sem.run_pure]) r' hh
 ·rename_i cs hy;simp at hs;obtain⟨rfl,rfl,rfl⟩:=hs;rw[hy] at r;generalize hx:a.eval x=ax at r;have r':=r;cases r;exact Ok.quiet (by simp only[execOp,eP,hx,Sem.run_pure]) r' hh
 ·rename_i f as bs hy;simp at hs;obtain⟨rfl,rfl,rfl⟩:=hs;rw[hy] at r;generalize hx:a.eval x=ax at r;have r':=r;cases r;exact Ok.quiet (by simp only[execOp,eP,hx,Sem.run_pure]) r' hh
 ·cases hs
theorem aeV {ca:Call} {x:Operand} {t:TypeId} {y:E} {v:AV} {H':Heap} {fl:Fp} {call:Nat->List AV->Heap->Option (AV × Heap)} (eP:o.op=.call ca) (Dv:ca.callee=.builtin .len) (mD:ca.args=#[x]) (Ei:ca.argTypes=#[t]) (hh:bV X φ w H)
  (r:bF (Rd X φ w) φ (ev c env y) (a.eval x)) (qP:isSlice P t=true) (hs:fu c call env H (.len y)=some (v,H',fl)):Ok P X φ w o a v H':=by
 unfold isSlice at qP;split at qP
 case h_2=>cases qP
 rename_i e hu
 have run:∀{ad:Option Addr} {n cap:Nat},a.eval x=.slice ad n cap->(execOp a.eval o).run P w=.ok (.value (.int .i64 n)) w:=by
  intro ad n cap hx;simp[execOp,eP,resolve,Dv,mD,Ei,invoke,builtin,hx,Builtin.len_,run_underlying hu,goInt]
 simp only[fu] at hs;split at hs
 case h_2=>cases hs
 rename_i n hn;simp at hs;obtain⟨rfl,rfl,rfl⟩:=hs;generalize hy:ev c env y=yv at r hn;generalize hx:a.eval x=ax at r;cases yv<;>simp only[Y9,af] at hn<;>try (cases hn; done)
 ·subst hn;cases r;exact Ok.quiet (run hx) (.int _ _ _) hh
 ·cases r with
  |vO _ _ _ ad m cap u hm=>
    subst hm; subst hn;exact Ok.quiet (run hx) (.int _ _ _) hh
  |j7=>simp at hn; subst hn; exact Ok.quiet (run hx) (.int _ _ _) hh
 ·subst hn;cases r;exact Ok.quiet (run hx) (.int _ _ _) hh
theorem LZ (mx:Bool):∀(xs:List AV) (vs:List Value) (k:IntKind) (n:Int) (r:AV),zH mx (.int k n) xs=some r->xs.length=vs.length->(∀(i:Nat) (c:AV) (v:Value),xs[i]?=some c->vs[i]?=some v->bF (Rd X φ w) φ c v) ->
  ∃ v,(vs.foldlM (if mx then Builtin.max2 else Builtin.min2) (.int k n)).run P w=.ok v w/\∀ R ψ,bF R ψ r v
 |[],[],k,n,r,h,_,_=>by simp[zH] at h; subst h; exact⟨_,rfl,fun _ _=>.int _ _ _⟩
 |[],_::_,_,_,_,_,hl,_=>by simp at hl
 |_::_,[],_,_,_,_,hl,_=>by simp at hl
 |x::xs,v::vs,k,n,r,h,hl,hr=>by
   cases x<;>simp only[zH] at h<;>try (cases h; done)
   rename_i k' m;obtain rfl:=gE (hr 0 _ v rfl rfl);obtain⟨v',h1,h2⟩:=LZ mx xs vs k _ r h (by simpa using hl) (fun i c u hc hu=>hr (i+1) c u (by simpa using hc) (by simpa using hu));refine⟨v',?_,h2⟩;cases mx
   ·simp only[bp,if_false] at h1 ⊢;simp only[List.foldlM_cons,Builtin.min2,Sem.run_bind,Sem.run_pure,Result.andThen_ok];exact h1
   ·simp only[if_true] at h1 ⊢;simp only[List.foldlM_cons,Builtin.max2,Sem.run_bind,Sem.run_pure,Result.andThen_ok];exact h1
theorem Yv {mx:Bool} {ca:Call} {ys:List E} {v:AV} (eP:o.op=.call ca) (Dv:ca.callee=.builtin (if mx then .max else .min)) (hh:bV X φ w H) (he:o9 X φ w env a.tmps) (hg:dH c X φ w)
  (mD:iz ca.args.toList ys=true) (hm:yG mx (En c env ys)=some v):Ok P X φ w o a v H:=by
 obtain⟨hl,hr⟩:=nH he hg mD;generalize hxs:En c env ys=xs at hm hl hr;have LA:(ca.args.map a.eval).toList=ca.args.toList.map a.eval:=by simp
 cases xs with
 |nil=>simp[yG] at hm
 |cons x xs=>
   cases x<;>simp only[yG] at hm<;>try (cases hm; done)
   rename_i k n;cases hav:ca.args.toList.map a.eval with
   |nil=>have:=congrArg List.length hav; simp at this hl; rw[this] at hl; simp at hl
   |cons u us=>
     rw[hav] at hr;obtain rfl:=gE (hr 0 _ u rfl rfl);obtain⟨v',h1,h2⟩:=LZ (P:=P) mx xs us k n v hm (by have:=congrArg List.length hav; simp at this hl; omega) (fun i c w' hc hw=>hr (i+1) c w' (by simpa using hc) (by simpa using hw));refine Ok.quiet (v':=v') ?_ (h2 _ _) hh;cases mx
     ·simp only[bp,if_false] at h1 Dv;simp only[execOp,eP,resolve,Dv,invoke,builtin,Builtin.min_,LA,hav,Sem.run_bind,Sem.run_pure,Result.andThen_ok,h1]
     ·simp only[if_true] at h1 Dv;simp only[execOp,eP,resolve,Dv,invoke,builtin,Builtin.max_,LA,hav,Sem.run_bind,Sem.run_pure,Result.andThen_ok,h1]
theorem aeX {t:TypeId} {s:ByteArray} {tab:List Nat} {xi:Operand} {yi:E} {v:AV} {H':Heap} {fl:Fp} {call:Nat->List AV->Heap->Option (AV × Heap)} (eP:o.op=.index t (.const (.string s)) xi) (hh:bV X φ w H)
  (ri:bF (Rd X φ w) φ (ev c env yi) (a.eval xi)) (hu:(match P.underlying t with
  |some .string=>true
  |_=>false)=true) (htab:s.data.toList.map (·.toNat)=tab) (hs:fu c call env H (.We tab yi)=some (v,H',fl)):Ok P X φ w o a v H':=by
 split at hu
 case h_2=>cases hu
 rename_i hu0;clear hu;simp only[fu] at hs;split at hs
 case h_2=>cases hs
 rename_i j hj;obtain⟨kk,ii,e1,e2,e3,e4,e5⟩:=wY hj;rw[e1] at ri;have Zv:=gE ri;split at hs
 case h_2=>cases hs
 rename_i u KJ;simp at hs;obtain⟨rfl,rfl,rfl⟩:=hs;subst htab
 have bQ:j<s.size:=by
  have h1:s.data.size=s.size:=rfl;have h2:=e5;simp at h2;omega
 have hsj:s[j]?=some s[j]:=getElem?_pos s j bQ
 have hu2:s[j].toNat=u:=by
  rw[cJ] at KJ
  have:s.data.toList[j]?=some s[j]:=by
   rw[eL];exact kc bQ
  rw[this] at KJ;simpa using KJ
 refine Ok.quiet (v':=.int .u8 u) ?_ (.int _ _ _) hh;subst e4;have dG:a.eval (.const (.string s))=.string s:=rfl;simp only[execOp,eP,dG,Zv,Instr.index,asIntOf,Sem.run_bind,Sem.run_pure,run_underlying hu0,Result.andThen_ok,e2,if_true,hsj,hu2]
theorem ae6 {ca:Call} {x:Operand} {t:TypeId} {k:Nat} {zs:List AV} {y:E} {v:AV} {H':Heap} {fl:Fp} {call:Nat->List AV->Heap->Option (AV × Heap)} (eP:o.op=.call ca) (Dv:ca.callee=.builtin .clear) (mD:ca.args=#[x]) (Ei:ca.argTypes=#[t]) (hh:bV X φ w H)
  (r:bF (Rd X φ w) φ (ev c env y) (a.eval x)) (hk:im P t k=true) (hz:gQ P t zs=true) (hs:fu c call env H (.UC k zs y)=some (v,H',fl)):Ok P X φ w o a v H':=by
 obtain⟨e,i,z,hu,hi,vT,hk0,hby,N5,O8⟩:=iy hk;simp only[gQ,hu] at hz;obtain⟨i',z',ye,HS,dG,yd⟩:=ta (X:=X) (φ:=φ) (w:=w) hz;rw[hi] at ye;simp at ye;subst ye;rw[N5] at HS;simp at HS;subst HS;have Ck:zs.length=k:=by have:=dG.1; simp at this; omega
 have run0:∀{ad:Option Addr} {cap:Nat},a.eval x=.slice ad 0 cap->(execOp a.eval o).run P w=.ok (.value (.tuple #[])) w:=by
  intro ad cap hx;cases ad<;>simp[execOp,eP,resolve,Dv,mD,Ei,invoke,builtin,hx,Builtin.clear_,run_underlying hu]
 simp only[fu] at hs;split at hs
 ·rename_i hy;simp at hs;obtain⟨rfl,rfl,rfl⟩:=hs;rw[hy] at r;generalize hx:a.eval x=ax at r;cases r;exact Ok.quiet (run0 hx) (.undef _) hh
 ·rename_i k' hy;simp at hs;obtain⟨rfl,rfl,rfl⟩:=hs;rw[hy] at r;generalize hx:a.eval x=ax at r;cases r with
  |vO _ _ _ ad n cap u hn=>simp at hn; subst hn; exact Ok.quiet (run0 hx) (.undef _) hh
  |j7=>exact Ok.quiet (run0 hx) (.undef _) hh
 ·rename_i k' b off len hy;rw[hy] at r;split at hs
  ·rename_i h0;subst h0;simp at hs;obtain⟨rfl,rfl,rfl⟩:=hs;generalize hx:a.eval x=ax at r;cases r;exact Ok.quiet (run0 hx) (.undef _) hh
  ·rename_i h0;split at hs
   case h_2=>cases hs
   rename_i cs hb;split at hs
   case isFalse=>cases hs
   rename_i hc;obtain⟨rfl,oV⟩:=hc;simp at hs;obtain⟨rfl,rfl,rfl⟩:=hs;generalize hx:a.eval x=ax at r;cases r with
   |sl _ _ _ _ _ ad cap Uh iP hp=>
     obtain⟨g,sz,arr,e2,h1,h2,h3,h4,h5,h6⟩:=hh.cat hb fun g sz hg=>by have:=(hp g sz hg).2; omega
     have ahH:=(hp g sz h1).2;have ahu:0<cap:=by omega
     obtain rfl:=(hp g sz h1).1 ahu
     have rp:bF (Rd X φ w) φ (.ptr b off) (.pointer (some ⟨g,off,none⟩)):=.ptr _ _ _ _ Uh fun g' pe QB=>by
      rw[h1] at QB;simp at QB;obtain⟨rfl,rfl⟩:=QB;exact⟨rfl,by omega⟩
     have hcz:Cs X φ w (rep zs len) (Builtin.zeroCells z.cells len).toList:=by
      refine⟨by rw[kR,Ck]; simp[Builtin.zeroCells,O8],fun j c v hc hv=>?_⟩;obtain⟨u,q1,q2⟩:=PU dG (n:=len) (m:=len*k') (by rw[O8]; omega) (arr:=Builtin.zeroCells z.cells len) (by simp[Builtin.zeroCells,O8]) (fun i hi=>by simp[Builtin.zeroCells,O8,hi]) j c hc;rw[eL,q1] at hv;simp at hv;subst hv;exact q2
     obtain⟨g',w',e1,HU,q1,q2⟩:=Ez (P:=P) hh hb rp hcz (hcz.ss (XI yd len)) (by rw[kR,Ck]; exact oV);simp at e1;subst e1;refine Ok.value (v':=.tuple #[]) ?_ (.undef _) q1 q2;cases len with
     |zero=>exact absurd rfl h0
     |succ m=>simp[execOp,eP,resolve,Dv,mD,Ei,invoke,builtin,hx,Builtin.clear_,run_underlying hu,re hi N5,HU]
 ·cases hs
end
end Go.Am

/- append; calls. -/
namespace Go.Am
section
variable {P:Program} {c:dO} {X:Nat->Prop} {φ:cZ} {w:World} {env:Env} {H:Heap} {a:Act} {o:Oper}

theorem gX {k:Nat}:∀{xs:List AV},(∀x∈xs,x.cells.length=k)->(aA xs).length=xs.length*k /\
  ∀ (p:Nat) (c:AV),(aA xs)[p]?=some c->∃i x j,xs[i]?=some x/\x.cells[j]?=some c/\p=i*k+j
 |[],_=>⟨by simp[aA],fun p c h=>by simp[aA] at h⟩
 |x::r,h=>by
   obtain⟨hl,hm⟩:=gX (xs:=r) fun y hy=>h y (by simp[hy]);have hx:=h x (by simp);refine⟨by simp[aA,hl,hx,ct]; omega,fun p c hc=>?_⟩;rw[aA] at hc;by_cases hp:p<x.cells.length
   ·rw[az hp] at hc;exact⟨0,x,p,rfl,hc,by omega⟩
   ·rw[aN (by omega)] at hc;obtain⟨i,y,j,h1,h2,h3⟩:=hm _ c hc;exact⟨i+1,y,j,by simpa using h1,h2,by rw[ct]; omega⟩
theorem yR (hh:bV X φ w H) {k m:Nat} {x:AV} {news:List AV} {v:Value} (h:iA H k x=some (news,m)) (r:bF (Rd X φ w) φ x v) :
  ∃ ao cap vs,v=.slice ao m cap/\vs.length=m*k/\Cs X φ w news vs/\(∀ad,ao=some ad->∀(j:Nat) (u:Value),vs[j]?=some u->w.cell? (ad.add j)=some u)/\(ao=none->m=0):=by
 have fin:∀{ad:Addr} {cap:Nat} {cs:List AV},LH X φ w cs ad->cs.length=m*k->cs=news->v=.slice (some ad) m cap ->
   ∃ ao cap vs,v=.slice ao m cap/\vs.length=m*k/\Cs X φ w news vs/\(∀ad,ao=some ad->∀(j:Nat) (u:Value),vs[j]?=some u->w.cell? (ad.add j)=some u)/\(ao=none->m=0):=by
  intro ad cap cs hp hl hn hv;obtain⟨vs,h1,h2,h3⟩:=hp.values cs.length (aI _);subst hn;refine⟨some ad,cap,vs,hv,by omega,⟨h1.symm,fun i c u hc hu=>h3 i c u (by simpa using hc) hu⟩,fun ad' h=>?_,fun h=>by cases h⟩;cases h;exact h2
 cases x<;>simp only[iA] at h<;>try (cases h; done)
 ·simp at h;obtain⟨rfl,rfl⟩:=h;cases r;exact⟨none,0,[],rfl,by simp,⟨rfl,fun i c u hc=>by simp at hc⟩,(fun ad h=>by cases h),fun _=>rfl⟩
 ·rename_i k' xs;split at h
  ·rename_i hk;subst hk;simp at h;obtain⟨rfl,rfl⟩:=h;cases r with
   |vO _ _ _ ad n cap u hn iP hkc hur hr=>
     obtain⟨hl,hm⟩:=gX hkc;subst hn;refine fin (ad:=ad) (cap:=cap) (fun p c hc=>?_) hl rfl rfl;obtain⟨i,y,j,h1,h2,rfl⟩:=hm p c hc;exact⟨u i j,(hur i j y c h1 h2).2.2,(hr i j y c h1 h2).Jb φ⟩
   |j7=>exact⟨none,0,[],rfl,by simp,⟨rfl,fun i c u hc=>by simp[aA] at hc⟩,(fun ad h=>by cases h),fun _=>rfl⟩
  ·cases h
 ·rename_i k' b off len;split at h
  case h_2=>cases h
  rename_i cs dG;split at h
  case isFalse=>cases h
  rename_i hc;obtain⟨rfl,oV⟩:=hc;simp at h;obtain⟨rfl,rfl⟩:=h;cases r with
  |sl _ _ _ _ _ ad cap hb hc hp=>
    obtain⟨g,sz,arr,e,h1,h2,h3,h4,h5,h6⟩:=hh.cat dG fun g sz hg=>by have:=(hp g sz hg).2; omega
    by_cases h0:len=0
    ·subst h0;exact⟨some ad,cap,[],rfl,by simp,⟨by simp,fun i c u hc=>by simp at hc⟩,(fun _ _ j u hu=>by simp at hu),(fun h=>by cases h)⟩
    ·obtain rfl:=(hp g sz h1).1 (by omega);refine fin (ad:=⟨g,off,none⟩) (cap:=cap) (cs:=(cs.drop off).take (len*k')) (fun p c hc=>?_) (by simp; omega) rfl rfl;rw[bE] at hc;split at hc
     ·rw[aW] at hc;obtain⟨u,hu,r⟩:=h6 _ _ hc;exact⟨u,by rw[Addr.iq,gS h2]; exact hu,r⟩
     ·cases hc

theorem BN {t ty e e2:TypeId} {i:TypeInfo} (ht:P.underlying t=some (.slice e)) (hi:P.info? e=some i)
  {g PQ sCap:Nat} {cur:Array Value} (hg:w.heap[g]?=some (.cells cur e2 (0,0)))
  {a:Addr} {m c:Nat} {news:List Value} (hl:news.length=m*i.size) (ahm:∀(j:Nat) (u:Value),news[j]?=some u->w.cell? (a.add j)=some u) (h1:∀u∈news,u.oneCell'=true)
  (adP:PQ+m<=sCap) (oV:PQ*i.size+news.length<=cur.size) :
  (Builtin.append_ #[t,t] ty #[.slice (some ⟨g,0,none⟩) PQ sCap,.slice (some a) m c]).run P w =
   .ok (.slice (some ⟨g,0,none⟩) (PQ+m) sCap) (w.setRow g (cur.toList.take (PQ*i.size)++news++cur.toList.drop (PQ*i.size+news.length)).toArray):=by
 have hf:=run_firstCells_some (P:=P) w i.size m a m c news hl ahm;have HU:=run_storeCells_at P g (PQ*i.size) e2 news 0 cur w hg (by simpa using oV) h1;simp only[DM] at HU;simp[Builtin.append_,run_underlying ht,sizeOf,typeInfo,hi,Builtin.lenOf,adP,hf,Addr.add_lit,HU]
theorem po {t ty e:TypeId} {i:TypeInfo} (hu:P.underlying t=some (.slice e)) (hi:P.info? e=some i) {base ao:Option Addr} {n cap c:Nat} (h:n<=cap) :
  (Builtin.append_ #[t,t] ty #[.slice base n cap,.slice ao 0 c]).run P w=.ok (.slice base n cap) w:=by
 cases base<;>cases ao<;>simp[Builtin.append_,run_underlying hu,sizeOf,wa hi,Builtin.lenOf,h,Builtin.firstCells,loadCells,loadCellsFrom,storeCells]
theorem afa {ca:Call} {x y:Operand} {t:TypeId} {k:Nat} {x' y':E} {v:AV} {H':Heap} {fl:Fp} {call:Nat->List AV->Heap->Option (AV × Heap)} (eP:o.op=.call ca) (Dv:ca.callee=.builtin .append) (mD:ca.args=#[x,y]) (Ei:ca.argTypes=#[t,t])
  (hh:bV X φ w H) (rx:bF (Rd X φ w) φ (ev c env x') (a.eval x)) (ry:bF (Rd X φ w) φ (ev c env y') (a.eval y)) (hk:im P t k=true) (hs:fu c call env H (.app k x' y')=some (v,H',fl)):Ok P X φ w o a v H':=by
 obtain⟨e,i,z,hu,hi,vT,hk0,hby,N5,O8⟩:=iy hk
 have fin:∀{p q v':Value} {w':World} {φ':cZ},a.eval x=p->a.eval y=q->(Builtin.append_ #[t,t] o.type #[p,q]).run P w=.ok v' w'->bF (Rd X φ' w') φ' v v'->bV X φ' w' H'->eW φ w φ' w'->Ok P X φ w o a v H':=by
  intro p q v' w' φ' hp hq hr r h k;refine Ok.value ?_ r h k;simp only[execOp,eP,resolve,Dv,mD,Ei,invoke,builtin,List.map_toArray,eB,List.map_nil,hp,hq,Sem.run_bind,Sem.run_pure,Result.andThen_ok,hr]
 simp only[fu] at hs;split at hs
 case h_2=>cases hs
 rename_i news m hsc;obtain⟨ao,Ra,vs,hy,Zx,KQ,hvc,Ud⟩:=yR hh hsc ry;have hL:mN=4294967296:=rfl;split at hs
 ·rename_i HT;rw[HT] at rx;generalize hx:a.eval x=ax at rx;cases rx;by_cases hm:m=0
  ·subst hm;simp at hs;obtain⟨rfl,rfl,rfl⟩:=hs;exact fin hx hy (po hu hi (aI 0)) (.dp _) hh (.refl _ _)
  ·rw[if_neg hm] at hs;split at hs
   case isFalse=>cases hs
   rename_i hc;obtain⟨KN,yd⟩:=hc;simp at hs;obtain⟨rfl,rfl,rfl⟩:=hs;cases ao with
   |none=>exact absurd (Ud rfl) hm
   |some ad=>
     have hmb:m*i.bytes<=4294967296*1024:=Nat.mul_le_mul (by omega) hby;have hr:=run_append_nil (P:=P) w t o.type e i z hu hi N5 ad m Ra vs (by rw[Zx,vT]) (hvc ad rfl) (by omega) (by omega) (by omega);have hge:=grownCap_ge w m 0 e
     have mQ:(vs.toArray++Builtin.zeroCells z.cells (grownCap w m 0 e-m)).size=grownCap w m 0 e*k:=by
      simp only[W5,s9,size_zeroCells,O8,Zx,<-ct]; congr 1; omega
     obtain⟨q1,q2⟩:=tL hh (w1:=w.drew) (arr:=vs.toArray++Builtin.zeroCells z.cells (grownCap w m 0 e-m)) (e:=e) (cs:=news) rfl rfl rfl rfl
      (by rw[mQ,KQ.1,Zx]; exact bN _ hge)
      (KQ.at fun j u hj=>by rw[sP (by simpa using ak hj)]; simpa using hj)
     exact fin hx hy hr (Kw hh.len hge (by rw[mQ]; exact aI _)) q1 q2
 ·rename_i k' b n HT;split at hs
  case h_2=>cases hs
  rename_i cs dG;split at hs
  case isFalse=>cases hs
  rename_i hc;obtain⟨rfl,hnk,KN,yd⟩:=hc;simp at hs;obtain⟨rfl,rfl,rfl⟩:=hs;rw[HT] at rx;generalize hx:a.eval x=ax at rx;cases rx with
  |sl _ _ _ _ _ ad cap hb iP hp=>
    obtain⟨g,sz,arr,e2,jU,hg,mQ,hle,hX,hm6⟩:=hh.cat dG fun g sz hg=>by have:=(hp g sz hg).2; omega
    subst mQ;have mQ:=Eq.refl (arr.size+1);obtain⟨Oc,adP⟩:=hp g _ jU
    have hold:Cs X φ w (cs.take (n*k')) (arr.toList.take (n*k')):=by
     refine⟨by simp; omega,fun j x u hx hu=>?_⟩;have hj:j<n*k':=by have:=ak hx; simp at this; omega
     rw[aQ hj] at hx hu;obtain⟨u',h1,h2⟩:=hm6 j x hx;simp at hu;rw[h1] at hu;simp at hu;subst hu;exact h2
    have j9:=hold.append KQ;have HG:(arr.toList.take (n*k')).length=n*k':=by simp; omega
    have hlen:(n:Nat)*k'+m*k'=(n+m)*k':=by rw[ct]
    by_cases hm:m=0
    ·subst hm;have LA:vs=[]:=dI (by omega);subst LA
     obtain⟨q1,q2⟩:=hh.move (cs':=cs.take (n*k')++news) (arr':=arr) (w':=w) jU hg mQ rfl (by rw[setRow_self w g arr e2 _ hg]) hX
      (by rw[j9.1]; simp; omega) (j9.at fun j u hj=>by
       rw[List.append_nil] at hj;have Xc:j<n*k':=by have:=ak hj; omega
       rw[aQ Xc] at hj;simpa using hj)
     refine fin hx hy (po hu hi iP) ?_ q1 q2;refine .sl _ _ _ _ _ _ _ (by simp[hh.len]) iP fun g' pe QB=>?_;rw[aN (by simp[hh.len])] at QB;simp[hh.len] at QB;obtain⟨rfl,rfl⟩:=QB;exact⟨Oc,by omega⟩
    ·cases ao with
     |none=>exact absurd (Ud rfl) hm
     |some ady=>
       have h1c:=KQ.ss yd;by_cases Qv:n+m<=cap
       ·obtain rfl:=Oc (by omega)
        have oV:n*i.size+vs.length<=arr.size:=by
         rw[vT,Zx,hlen];have:=bN k' Qv;omega
        have hr:=BN (P:=P) (ty:=o.type) (c:=Ra) hu hi hg (by rw[Zx,vT]) (hvc ady rfl) h1c Qv oV;rw[vT] at hr oV
        have Bb:(arr.toList.take (n*k')++vs++arr.toList.drop (n*k'+vs.length)).toArray.size=arr.size:=by
         simp only[s9,bC,bj,dT,qX]; omega
        obtain⟨q1,q2⟩:=hh.move (cs':=cs.take (n*k')++news) (arr':=(arr.toList.take (n*k')++vs++arr.toList.drop (n*k'+vs.length)).toArray) jU hg mQ Bb rfl hX
         (by rw[j9.1,Bb]; simp; omega) (j9.at fun j u hj=>by
          simp only[xz];rw[az (ak hj)];exact hj)
        refine fin hx hy hr (TM (by simp[hh.len]) Qv (by omega)) q1 q2
       ·have holds:∀(j:Nat) (u:Value),(arr.toList.take (n*k'))[j]?=some u->w.cell? (ad.add j)=some u:=by
         intro j u hj;have Xc:j<n*k':=by have:=ak hj; omega
         have hn0:0<n:=by
          rcases Nat.eq_zero_or_pos n with h|h
          ·subst h; simp at Xc
          ·exact h
         obtain rfl:=Oc (by omega);rw[Addr.iq,gS hg];rw[aQ Xc] at hj;simpa using hj
        have hmb:(n+m)*i.bytes<=4294967296*1024:=Nat.mul_le_mul (by omega) hby
        have hr:=run_append_grow (P:=P) w t o.type e i z hu hi N5 ad n cap (arr.toList.take (n*k')) (by rw[HG,vT]) holds ady m Ra vs (by rw[Zx,vT]) (hvc ady rfl) (by omega) (by omega)
         (growslice_fits (by omega) (by omega))
        have hge:=grownCap_ge w (n+m) cap e
        have hsz2:((arr.toList.take (n*k')).toArray++vs.toArray++Builtin.zeroCells z.cells (grownCap w (n+m) cap e-(n+m))).size=grownCap w (n+m) cap e*k':=by
         simp only[W5,s9,size_zeroCells,O8,Zx,HG,<-ct]; congr 1; omega
        obtain⟨k1,k2⟩:=hh.Zg b;have Jp:Cs X (φ.set b none) w (cs.take (n*k')++news) (arr.toList.take (n*k')++vs):=⟨j9.1,fun j x u hx hu=>k2.rep (j9.2 j x u hx hu)⟩
        obtain⟨q1,q2⟩:=tL k1 (w1:=w.drew) (arr:=(arr.toList.take (n*k')).toArray++vs.toArray++Builtin.zeroCells z.cells (grownCap w (n+m) cap e-(n+m))) (e:=e) (cs:=cs.take (n*k')++news) rfl rfl rfl rfl
         (by rw[hsz2,j9.1,bC,HG,Zx,hlen]; exact bN _ hge)
         (Jp.at fun j u hj=>by
          rw[sP (by simpa using ak hj)];have:((arr.toList.take (n*k')).toArray++vs.toArray)=(arr.toList.take (n*k')++vs).toArray:=by simp
          rw[this];simpa using hj)
        refine fin hx hy hr ?_ q1 (k2.trans q2);exact TM (by simp[hh.len]) hge (by rw[hsz2]; exact aI _)
 ·cases hs

theorem abh {ca:Call} {x y:Operand} {t t':TypeId} {k:Nat} {x' y':E} {v:AV} {H':Heap} {fl:Fp} {call:Nat->List AV->Heap->Option (AV × Heap)} (eP:o.op=.call ca) (Dv:ca.callee=.builtin .copy) (mD:ca.args=#[x,y]) (Ei:ca.argTypes=#[t,t'])
  (hh:bV X φ w H) (rx:bF (Rd X φ w) φ (ev c env x') (a.eval x)) (ry:bF (Rd X φ w) φ (ev c env y') (a.eval y)) (hk:im P t k=true) (hs:fu c call env H (.copy k x' y')=some (v,H',fl)):Ok P X φ w o a v H':=by
 obtain⟨e,i,z,hu,hi,vT,hk0,hby,N5,O8⟩:=iy hk
 have fin:∀{p q v':Value} {w':World} {φ':cZ},a.eval x=p->a.eval y=q->(Builtin.copy_ #[t,t'] o.type #[p,q]).run P w=.ok v' w'->bF (Rd X φ' w') φ' v v'->bV X φ' w' H'->eW φ w φ' w'->Ok P X φ w o a v H':=by
  intro p q v' w' φ' hp hq hr r h k;refine Ok.value ?_ r h k;simp only[execOp,eP,resolve,Dv,mD,Ei,invoke,builtin,List.map_toArray,eB,List.map_nil,hp,hq,Sem.run_bind,Sem.run_pure,Result.andThen_ok,hr]
 simp only[fu] at hs;split at hs
 case h_2=>cases hs
 rename_i news m hsc;obtain⟨ao,Ra,vs,hy,Zx,KQ,hvc,Ud⟩:=yR hh hsc ry
 have zero:∀{base:Option Addr} {n cap:Nat},Nat.min m n=0->(Builtin.copy_ #[t,t'] o.type #[.slice base n cap,.slice ao m Ra]).run P w=.ok (.int .i64 0) w:=by
  intro base n cap h0;cases base<;>cases ao<;>simp[Builtin.copy_,run_underlying hu,Builtin.lenOf,sizeOf,wa hi,h0,Builtin.firstCells,loadCells,loadCellsFrom,storeCells,goInt]
 split at hs
 ·rename_i HT;rw[HT] at rx;generalize hx:a.eval x=ax at rx;cases rx;simp at hs;obtain⟨rfl,rfl,rfl⟩:=hs;exact fin hx hy (zero (Nat.min_zero m)) (.int _ _ _) hh (.refl _ _)
 ·rename_i k' b off n HT;split at hs
  case h_2=>cases hs
  rename_i cs dG;split at hs
  case isFalse=>cases hs
  rename_i hc;obtain⟨rfl,oV,yd⟩:=hc;simp only[af,aB] at hs;obtain⟨rfl,rfl,rfl⟩:=hs;rw[HT] at rx;generalize hx:a.eval x=ax at rx;cases rx with
  |sl _ _ _ _ _ ad cap hb iP hp=>
    obtain⟨g,sz,arr,e2,jU,hg,mQ,hle,hX,hm6⟩:=hh.cat dG fun g sz hg=>by have:=(hp g sz hg).2; omega
    by_cases h0:min m n=0
    ·have e0:H.set b (some (iZ cs off (news.take (min m n*k'))))=H:=by
      have e1:iZ cs off (news.take (min m n*k'))=cs:=by rw[h0]; simp[iZ]
      rw[e1]
      have iV:H[b]?=some (some cs):=by
       unfold aJ at dG;split at dG
       ·rename_i q hq;cases dG;exact hq
       ·cases dG
      apply dy;intro j;rw[aX];split
      ·rename_i ej;subst ej;rw[iV];simp[ak iV]
      ·rfl
     have h0':Nat.min m n=0:=h0;exact fin hx hy (zero h0') (by rw[h0]; exact .int _ _ _) (by rw[e0]; exact hh) (.refl _ _)
    ·obtain rfl:=(hp g sz jU).1 (by omega);cases ao with
     |none=>exact absurd (Ud rfl) (by omega)
     |some ady=>
       have rp:bF (Rd X φ w) φ (.ptr b off) (.pointer (some ⟨g,off,none⟩)):=.ptr _ _ _ _ hb fun g' pe QB=>by
        rw[jU] at QB;simp at QB;obtain⟨rfl,rfl⟩:=QB;exact⟨rfl,by omega⟩
       have hle2:min m n*k'<=m*k':=bN _ (Nat.min_le_left _ _);have hle3:min m n*k'<=n*k':=bN _ (Nat.min_le_right _ _)
       have hcz:Cs X φ w (news.take (min m n*k')) (vs.take (min m n*k')):=by
        refine⟨by simp[KQ.1],fun j d u hd hu=>?_⟩;have hj:j<min m n*k':=by have:=ak hd; rw[bj] at this; omega
        rw[aQ hj] at hd hu;exact KQ.2 j d u hd hu
       have hnl:news.length=m*k':=by rw[KQ.1,Zx]
       obtain⟨g',w',e1,HU,q1,q2⟩:=Ez (P:=P) hh dG rp hcz (fun u hu=>KQ.ss yd u (List.mem_of_mem_take hu)) (by rw[bj]; omega);simp at e1;subst e1
       have hf:=run_firstCells_some (P:=P) w i.size (min m n) ady m Ra (vs.take (min m n*k')) (by rw[bj,Zx,vT]; omega) (fun j u hj=>by
        have Xc:j<min m n*k':=by have:=ak hj; rw[bj] at this; omega
        rw[aQ Xc] at hj;exact hvc ady rfl j u hj)
       have hmin:Nat.min m n=min m n:=rfl;refine fin hx hy (v':=.int .i64 ((min m n:Nat):Int)) (w':=w') ?_ (.int _ _ _) q1 q2;have N6:(Builtin.firstCells i.size (Nat.min m n) (.slice (some ady) m Ra)).run P w=.ok (vs.take (min m n*k')).toArray w:=hf;simp[Builtin.copy_,run_underlying hu,Builtin.lenOf,sizeOf,wa hi,N6,HU,goInt]
       try rfl
 ·cases hs

/-! Calls -/
def Ret (X:Nat->Prop) (φ:cZ) (w:World) (r:AV) (H':Heap) (e:Ending) (w':World):Prop:=
 ∃ v' φ',e=.returned v'/\bF (Rd X φ' w') φ' r v'/\bV X φ' w' H'/\eW φ w φ' w'
def CG (P:Program) (c:dO) (call:Nat->List AV->Heap->Option (AV × Heap)):Prop:=
 ∀ f m q,c.fn f=some (m,q)->∀args H r H',call f args H=some (r,H')->∀X φ w vargs,s6 X φ w args vargs->bV X φ w H->dH c X φ w->Calls P f vargs w (Ret X φ w r H')

theorem bV.gU (h:bV X φ w H) {g:Nat} (ho:bX φ g):g<w.heap.size/\¬ X g:=by
 obtain⟨b,sz,hb⟩:=ho;obtain⟨x,hx⟩:=aZ (l:=H) (i:=b) (h.len▸ak hb);cases x with
 |none=>rw[h.dead b hx] at hb; simp at hb
 |some cs=>
   obtain⟨g',pe,arr,e,h1,h2,_,_,h5,_⟩:=h.live b cs hx;rw[h1] at hb;simp at hb;rw[<-hb.1];exact⟨(fk.1 h2).1,h5⟩
theorem bV.empty (h:bV X φ w H):bV (fun g=>X g\/bX φ g) [] w []:=
 ⟨rfl,fun g hg=>hg.elim (h.HK g) (fun ho=>(h.gU ho).1),fun b cs hb=>by simp at hb,fun b hb=>by simp at hb,fun b b' g sz pe h1=>by simp at h1⟩
theorem M9 (hh:bV X φ w H) {R:Addr->Value->Prop} (hR:∀a u,Rd X φ w a u->R a u) {xs ys:List AV} {bs:List Nat} {n:Nat} {vs:Array Value} (hm:B6 (Cw H n) xs=some (ys,bs))
  (hb:∀b∈bs,∀g sz:Nat,φ[b]?=some (some (g,sz))->∀o u,w.cell? ⟨g,o,none⟩=some u->R ⟨g,o,none⟩ u) (ha:s6 X φ w xs vs) :
  ys.length=vs.size/\∀ (i:Nat) (c:AV) (v:Value),ys[i]?=some c->vs[i]?=some v->bF R [] c v:=by
 obtain⟨hl,Qy⟩:=tx hm;refine⟨by rw[hl,ha.1],fun i c v hc hv=>?_⟩;obtain⟨x,hx⟩:=aZ (l:=xs) (i:=i) (by have:=ak hc; omega);obtain⟨y,b,e1,e2,e3⟩:=Qy i x hx;rw[e2] at hc;simp at hc;subst hc;exact Em hh hR n x _ v b e1 (fun b' iV=>hb b' (e3 b' iV)) (ha.2 i x v hx hv)

theorem BS {call:Nat->List AV->Heap->Option (AV × Heap)} (dJ:CG P c call) {f:Nat} {m:Md} {q:gH} (hf:c.fn f=some (m,q)) {args:List AV} {r r':AV} {H1:Heap} {bs:List Nat} (hr:call f args []=some (r,H1)) (hz:Cw H1 Rp r=some (r',bs))
  (hh:bV X φ w H) (hg:dH c X φ w) {vargs:Array Value} (ha:args.length=vargs.size/\∀ (i:Nat) (c:AV) (v:Value),args[i]?=some c->vargs[i]?=some v->bF (Rd X φ w) [] c v) :
  Calls P f vargs w (Ret X φ w r' H):=by
 have Cl:∀{w':World} a u,Rd X φ w' a u->Rd (fun g=>X g\/bX φ g) [] w' a u:=fun a u ⟨h1,h2,h3⟩=>⟨fun h=>h.elim h1 h2,bX.nil _,h3⟩;have ahv:∀{w':World} a u,Rd (fun g=>X g\/bX φ g) [] w' a u->Rd X φ w' a u:=fun a u ⟨h1,_,h3⟩=>⟨fun h=>h1 (.inl h),fun h=>h1 (.inr h),h3⟩;refine (dJ f m q hf args [] r H1 hr (fun g=>X g\/bX φ g) [] w vargs ⟨ha.1,fun i x v hx hv=>(ha.2 i x v hx hv).mono Cl (.refl _)⟩ hh.empty (fun g=>(hg g).mono Cl (.refl _))).mono ?_;rintro e w1 ⟨v',oa,rfl,r1,h1,a1⟩;refine⟨v',φ,rfl,?_,hh.of_same a1,.of_same a1⟩
 have DY:=Em h1 (R:=Rd (fun g=>X g\/bX φ g) [] w1) (fun a u ⟨p1,p2,p3⟩=>⟨p1,bX.nil _,p3⟩) Rp r r' v' bs hz
  (fun b _ g sz hb o u hu=>⟨(h1.gU ⟨b,sz,hb⟩).2,bX.nil _,hu⟩) r1
 exact (DY.mono ahv (.refl _)).Jb φ
theorem JD {call:Nat->List AV->Heap->Option (AV × Heap)} (dJ:CG P c call) {f:Nat} {args:List AV} {r:AV} {H':Heap} {fl:Fp} (hs:xe c call f args H=some (r,H',fl))
  (hh:bV X φ w H) (hg:dH c X φ w) {vargs:Array Value} (ha:s6 X φ w args vargs):(∃m q,c.fn f=some (m,q))/\Calls P f vargs w (Ret X φ w r H'):=by
 unfold xe at hs;split at hs
 ·cases hs
 ·rename_i q hf;refine⟨⟨_,_,hf⟩,?_⟩;split at hs
  case h_2=>cases hs
  rename_i r1 H1 hr;simp at hs;obtain⟨rfl,rfl,rfl⟩:=hs;exact dJ f _ q hf args H r1 H1 hr X φ w vargs ha hh hg
 ·rename_i q hf;refine⟨⟨_,_,hf⟩,?_⟩;split at hs
  case h_2=>cases hs
  rename_i r1 H1 hr;split at hs
  case h_2=>cases hs
  rename_i r' bs hz;split at hs
  case isFalse=>cases hs
  rename_i hc;obtain⟨hle,hge,cX⟩:=hc;simp at hs;obtain⟨rfl,rfl,rfl⟩:=hs;refine (dJ f _ q hf args H r1 H1 hr X φ w vargs ha hh hg).mono ?_;rintro e w1 ⟨v',oa,rfl,r1,h1,a1⟩;have hlen:=hh.len;refine⟨v',oa.take φ.length,rfl,?_,by rw[hlen]; exact h1.take hle cX,a1.take⟩
  have ZG:∀{n:Nat} {l:List Nat},UQ n l=true->∀b∈l,n<=b:=by
   intro n l
   induction l with
   |nil=>intro _ b hb; simp at hb
   |cons x r ih=>
     intro h b hb;simp only[UQ,ae,decide_eq_true_eq] at h;rcases aO.1 hb with h'|h'
     ·subst h'; exact h.1
     ·exact ih h.2 b h'
  have DY:=Em h1 (R:=Rd X (oa.take φ.length) w1) RS Rp _ _ v' bs hz (fun b hb g sz jU o u hu=>?_) r1
  ·exact DY.Jb _
  ·refine⟨(h1.gU ⟨b,sz,jU⟩).2,fun⟨b',pe,iV⟩=>?_,hu⟩;rw[bE] at iV;split at iV
   ·rename_i bQ;have:=h1.inj b b' g sz pe jU iV;have:=ZG hge b hb;omega
   ·cases iV
 ·rename_i q hf;refine⟨⟨_,_,hf⟩,?_⟩;split at hs
  ·rename_i mX;split at hs
   case h_2=>cases hs
   rename_i r1 H1 hr;split at hs
   case h_2=>cases hs
   rename_i r' bs hz;simp at hs;obtain⟨rfl,rfl,rfl⟩:=hs;exact BS dJ hf hr hz hh hg ⟨ha.1,fun i x v hx hv=>(ha.2 i x v hx hv).dC (rl mX i x hx) []⟩
  ·split at hs
   case h_2=>cases hs
   rename_i sM bs hm;split at hs
   case h_2=>cases hs
   rename_i r1 H1 hr;split at hs
   case h_2=>cases hs
   rename_i r' bs' hz;split at hs
   ·rename_i ahp;simp at hs;obtain⟨rfl,rfl,rfl⟩:=hs;have hh0:bV X [] w []:=⟨rfl,hh.HK,fun b cs hb=>by simp at hb,fun b hb=>by simp at hb,fun b b' g sz pe h1=>by simp at h1⟩;have Cl:∀{w':World} a u,Rd X φ w' a u->Rd X [] w' a u:=fun a u ⟨h1,_,h3⟩=>⟨h1,bX.nil _,h3⟩;have Xf:=M9 hh (R:=Rd X [] w) Cl hm (fun b _ g sz hb o u hu=>⟨(hh.gU ⟨b,sz,hb⟩).2,bX.nil _,hu⟩) ha;have hc:=BS (X:=X) (φ:=[]) (H:=[]) dJ hf hr hz hh0 (fun g=>(hg g).mono Cl (.refl _)) Xf;refine hc.mono ?_;rintro e w1 ⟨v',oa,rfl,r1,h1,a1⟩;exact⟨v',φ,rfl,r1.of_flat ahp _ _,hh.of_same a1,.of_same a1⟩
   ·simp at hs;obtain⟨rfl,rfl,rfl⟩:=hs;obtain⟨k1,k2⟩:=bV.kill bs hh
    have Xf:=M9 hh (R:=Rd X (NI φ bs) w) k2.rd hm (fun b hb g sz jU o u hu=>⟨(hh.gU ⟨b,sz,jU⟩).2,fun⟨b',pe,iV⟩=>by
     obtain⟨e1,e2⟩:=Jm bs φ b' _ iV;exact e2 (hh.inj b b' g sz pe jU e1▸hb),hu⟩) ha
    have hc:=BS dJ hf hr hz k1 (hg.nO k2) Xf;refine hc.mono ?_;rintro e w1 ⟨v',oa,rfl,r1,h1,a1⟩;exact⟨v',oa,rfl,r1,h1,k2.trans a1⟩

theorem Ax (cX:OX P c) {f:Nat} {m:Md} {q:gH} (hf:c.fn f=some (m,q)) (vargs:Array Value):(callFunc f vargs).run P w=.ok (.enter f vargs) w:=by
 obtain⟨fn,h1,h2⟩:=cX.fn f m q hf;simp only[chkF,ae,bt] at h2;obtain⟨⟨⟨_,Bd⟩,_⟩,tD⟩:=h2
 have hb:fn.body.isNone=false:=by
  cases hfb:fn.body with
  |none=>rw[hfb] at tD; cases tD
  |some b=>rfl
 simp only[callFunc,Sem.run_bind,run_program,Result.andThen_ok,h1,Bd,hb,bp,if_false,Sem.run_pure]
theorem Ok.call {f:Nat} {vargs:Array Value} {r:AV} {H':Heap} (hr:(execOp a.eval o).run P w=.ok (.enter f vargs) w) (hc:Calls P f vargs w (Ret X φ w r H')):Ok P X φ w o a r H':=by
 intro K Q hK;unfold Oper.wp;rw[hr,Oper.upon_enter];refine hc.mono ?_;rintro e w' ⟨v',φ',rfl,r1,h1,a1⟩;exact hK v' w' φ' r1 h1 a1
theorem abi {call:Nat->List AV->Heap->Option (AV × Heap)} (cX:OX P c) (dJ:CG P c call) {ca:Call} {f:Nat} {ys:List E} {r:AV} {H':Heap} {fl:Fp} (eP:o.op=.call ca) (Dv:ca.callee=.value (.func f))
  (hh:bV X φ w H) (he:o9 X φ w env a.tmps) (hg:dH c X φ w) (mD:iz ca.args.toList ys=true) (hs:fu c call env H (.call f ys)=some (r,H',fl)):Ok P X φ w o a r H':=by
 obtain⟨hl,hr⟩:=nH he hg mD;obtain⟨⟨m,q,hf⟩,hc⟩:=JD (P:=P) dJ hs hh hg (vargs:=ca.args.map a.eval) ⟨by simp[hl],fun i x v hx hv=>hr i x v hx (by simpa using hv)⟩;refine Ok.call ?_ hc;simp only[execOp,eP,resolve,Dv,Act.eval,Deferred.ofValue,invoke,Sem.run_bind,Sem.run_pure,Result.andThen_ok,Array.empty_append,Array.append_empty];exact Ax cX hf _
theorem YA {call:Nat->List AV->Heap->Option (AV × Heap)} (cX:OX P c) (dJ:CG P c call) {ca:Call} {x:Operand} {y:E} {ys:List E} {r:AV} {H':Heap} {fl:Fp} (eP:o.op=.call ca) (Dv:ca.callee=.value x)
  (hh:bV X φ w H) (he:o9 X φ w env a.tmps) (hg:dH c X φ w) (hx:cM x y=true) (mD:iz ca.args.toList ys=true) (hs:fu c call env H (.iR y ys)=some (r,H',fl)):Ok P X φ w o a r H':=by
 obtain⟨hl,hr⟩:=nH he hg mD;have rx:=bO (a:=a) he hg hx;simp only[fu] at hs;split at hs
 case h_2=>cases hs
 rename_i f as bs hy;rw[hy] at rx;generalize Pg:a.eval x=ax at rx;cases rx with
 |func _ _ _ va _ vb hyy zT zS hra hrb=>
   have j9:s6 X φ w (as++En c env ys++bs) (va++ca.args.map a.eval++vb):=by
    have c1:Cs X φ w as va.toList:=⟨by simpa using zT,fun i x v hx hv=>hra i x v hx (by simpa using hv)⟩;have c2:Cs X φ w (En c env ys) (ca.args.map a.eval).toList:=⟨by simp[hl],fun i x v hx hv=>hr i x v hx (by simpa using hv)⟩;have c3:Cs X φ w bs vb.toList:=⟨by simpa using zS,fun i x v hx hv=>hrb i x v hx (by simpa using hv)⟩;have c4:=(c1.append c2).append c3
    exact⟨by have:=c4.1; simp at this ⊢; omega,fun i x v hx hv=>c4.2 i x v hx (by
     have:(va++ca.args.map a.eval++vb).toList=va.toList++(ca.args.map a.eval).toList++vb.toList:=by simp
     rw[<-this,eL]; exact hv)⟩
   obtain⟨⟨m,q,hf⟩,hc⟩:=JD (P:=P) dJ hs hh hg j9;refine Ok.call ?_ hc;simp only[execOp,eP,resolve,Dv,Pg,Deferred.ofValue,invoke,Sem.run_bind,Sem.run_pure,Result.andThen_ok];exact Ax cX hf _
end
end Go.Am

/- What one operation of the dump does, continued: maps. -/
namespace Go.Am
section
variable {P:Program} {c:dO} {X:Nat->Prop} {φ:cZ} {w:World} {env:Env} {H:Heap} {a:Act} {o:Oper}

def IB (l:List AV):Prop:=∀c∈l,(∃k n,c=.int k n)\/∃ b,c=.bool b
theorem GN:∀{l:List Bool} {xs ys:List AV},yp l xs ys=some true->xs=ys/\IB xs
 |[],xs,ys,h=>by
   cases xs<;>cases ys<;>simp[yp] at h
   exact⟨rfl,fun c hc=>by cases hc⟩
 |true::l,xs,ys,h=>by
   obtain⟨k,a,r,b,s,e',rfl,rfl,h1,h2⟩:=K3 h;simp only[CK,ae,beq_iff_eq] at h2;obtain⟨rfl,rfl⟩:=h2;obtain⟨rfl,h3⟩:=GN h1;refine⟨rfl,fun c hc=>?_⟩;rcases aO.1 hc with rfl|hc
   ·exact .inl ⟨_,_,rfl⟩
   ·exact h3 c hc
 |false::l,xs,ys,h=>by
   obtain⟨a,r,b,s,e',rfl,rfl,h1,h2⟩:=GO h;simp only[CK,ae,beq_iff_eq] at h2;obtain⟨rfl,rfl⟩:=h2;obtain⟨rfl,h3⟩:=GN h1;refine⟨rfl,fun c hc=>?_⟩;rcases aO.1 hc with rfl|hc
   ·exact .inr ⟨_,rfl⟩
   ·exact h3 c hc
theorem afq {R R':Addr->Value->Prop} {ψ:cZ} {x:AV} {u v:Value} (h:(∃k n,x=.int k n)\/∃ b,x=.bool b) (h1:bF R φ x u) (h2:bF R' ψ x v):u=v:=by
 rcases h with⟨k,n,rfl⟩|⟨b,rfl⟩<;>cases h1<;>cases h2<;>rfl
theorem afr {R:Addr->Value->Prop} {x:AV} {u:Value} (h:(∃k n,x=.int k n)\/∃ b,x=.bool b) (h1:bF R φ x u) (n:Nat):Instr.sameBits n u u=true:=by
 rcases h with⟨k,m,rfl⟩|⟨b,rfl⟩<;>cases h1<;>cases n<;>simp[Instr.sameBits]
theorem afs {R R':Addr->Value->Prop} {ψ:cZ} {xs:List AV} (h:IB xs) {u v:Value} (h1:bF R φ (.agg xs) u) (h2:bF R' ψ (.agg xs) v):u=v/\∀ n,Instr.sameBits (n+1) u u=true:=by
 cases h1 with
 |agg _ _ va zT ha=>
   cases h2 with
   |agg _ _ vb zS hb=>
     have e:va=vb:=by
      apply Array.ext
      ·omega
      ·intro i i1 i2;obtain⟨x,hx⟩:=aZ (l:=xs) (i:=i) (by omega);exact afq (h x (bf hx)) (ha i x _ hx (kc i1)) (hb i x _ hx (kc i2))
     subst e;refine⟨rfl,fun n=>?_⟩;simp only[Instr.sameBits,beq_self_eq_true,Bool.true_and,sO];rintro⟨p,q⟩ hpq;obtain⟨i,hi⟩:=bz hpq;rw[List.getElem?_zip_eq_some] at hi;obtain⟨i1,i2⟩:=hi;simp only at i1 i2;rw[i1] at i2;cases i2;obtain⟨x,hx⟩:=aZ (l:=xs) (i:=i) (by have:=ak i1; simp at this; omega);exact afr (h x (bf hx)) (ha i x p hx (by simpa using i1)) n
theorem NL {R R':Addr->Value->Prop} {ψ:cZ} {K:Kt} {x y:AV} {u v:Value} (h:xW K x y=some true) (h1:bF R φ x u) (h2:bF R' ψ y v):u=v/\∀ n,Instr.sameBits (n+1) u u=true:=by
 unfold xW at h;split at h
 ·rename_i k k1 a k2 b;split at h
  ·rename_i hk;obtain⟨rfl,rfl⟩:=hk;simp at h;subst h;cases h1; cases h2;exact⟨rfl,fun n=>by simp[Instr.sameBits]⟩
  ·cases h
 ·rename_i a b;simp only[af] at h;obtain rfl:=(MapKept.bytes_beq a b).1 h;cases h1; cases h2;exact⟨rfl,fun n=>by simp only[Instr.sameBits]; exact (MapKept.bytes_beq a a).2 rfl⟩
 ·obtain⟨rfl,hib⟩:=GN h;exact afs hib h1 h2
 ·cases h
theorem acF {t:TypeId} {l:List Bool} (hc:rO P t (.kst l)=true) {xs ys:List AV} {u v:Value} {e:Bool} (h:yp l xs ys=some e) (h1:bF (Rd X φ w) φ (.agg xs) u) (h2:bF (Rd X φ w) φ (.agg ys) v):(Op.equal t u v).run P w=.ok e w:=by
 cases h1 with
 |agg _ _ vx Cq hrx=>
   cases h2 with
   |agg _ _ vy Cp hry=>
     simp only[rO] at hc;split at hc
     ·rename_i fs hu;simp only[ae,bt] at hc;obtain⟨⟨Pf,El⟩,hc3⟩:=hc;have hfo:P.fieldsOf t=fs:=by simp[Program.fieldsOf,hu]
      show (Op.equalIn 10000 t (.agg vx) (.agg vy)).run P w=_;rw[show (10000:Nat)=9999+1 from rfl,run_equalIn_struct w 9999 t vx vy (by rw[hu,hfo]) Pf,hfo];exact tT 9998 fs.toList l 0 xs ys vx vy e hc3 (by simpa using h) Cq Cp hrx hry
     ·cases hc
def Rn (X:Nat->Prop) (φ:cZ) (w:World) (cs:List AV) (es:List MapEntry):Prop:=cs.length=es.length/\∀ (i:Nat) (c:AV) (e:MapEntry),cs[i]?=some c->es[i]?=some e->bF (Rd X φ w) φ c (.tuple #[e.key,e.val])
theorem Rn.tail {c:AV} {cs:List AV} {e:MapEntry} {es:List MapEntry} (h:Rn X φ w (c::cs) (e::es)):bF (Rd X φ w) φ c (.tuple #[e.key,e.val])/\Rn X φ w cs es:=
 ⟨h.2 0 c e rfl rfl,by have:=h.1; simpa using this,fun i c' e' h1 h2=>h.2 (i+1) c' e' (by simpa using h1) (by simpa using h2)⟩
theorem L6 {R:Addr->Value->Prop} {x y:AV} {u v:Value} (h:bF R φ (.dF [x,y]) (.tuple #[u,v])):bF R φ x u/\bF R φ y v:=by
 cases h with
 |dF _ _ vs hl h=>exact⟨h 0 x u rfl rfl,h 1 y v rfl rfl⟩
theorem AG {R:Addr->Value->Prop} {x y:AV} {u v:Value} (h1:bF R φ x u) (h2:bF R φ y v):bF R φ (.dF [x,y]) (.tuple #[u,v]):=by
 refine .dF _ _ _ rfl fun i c z hc hz=>?_
 match i with
 |0=>simp at hc hz; subst hc; subst hz; exact h1
 |1=>simp at hc hz; subst hc; subst hz; exact h2
 |i+2=>simp at hc
def Found (X:Nat->Prop) (φ:cZ) (w:World) (es:List MapEntry) (i:Nat) (u:Value):Option (Nat × AV)->Option (Nat × Value)->Prop
 |none,r=>r=none
 |some (n,v),r=>∃e,i<=n/\es[n-i]?=some e/\r=some (n,e.val)/\bF (Rd X φ w) φ v e.val/\e.key=u/\∀ m,Instr.sameBits (m+1) u u=true
theorem Found.next {es:List MapEntry} {e0:MapEntry} {i:Nat} {u:Value} {r:Option (Nat × AV)} {q:Option (Nat × Value)} (h:Found X φ w es (i+1) u r q):Found X φ w (e0::es) i u r q:=by
 cases r with
 |none=>exact h
 |some p=>
   obtain⟨n,v⟩:=p;obtain⟨e,h1,h2,h3⟩:=h;refine⟨e,by omega,?_,h3⟩;rw[show n-i=(n-(i+1))+1 by omega];simpa using h2
theorem zI {K:Kt} {x c:AV} {cs:List AV} {i:Nat} {r:Option (Nat × AV)} (h:gP K x (c::cs) i=some r):∃k' v,c=.dF [k',v]/\((xW K x k'=some true/\r=some (i,v))\/(xW K x k'=some false/\gP K x cs (i+1)=some r)):=by
 have shape:∃k' v,c=.dF [k',v]:=by
  cases c with
  |dF vs=>
    match vs,h with
    |[],h=>simp[gP] at h
    |[_],h=>simp[gP] at h
    |[k',v],h=>exact⟨k',v,rfl⟩
    |_::_::_::_,h=>simp[gP] at h
  |_=>simp[gP] at h
 obtain⟨k',v,rfl⟩:=shape;refine⟨k',v,rfl,?_⟩;simp only[gP] at h;split at h
 ·rename_i hb;simp only[af] at h;exact .inl ⟨hb,h.symm⟩
 ·rename_i hb;exact .inr ⟨hb,h⟩
 ·cases h
theorem xb {d:TypeDesc} {K:Kt} (hd:(∃k,d=.int k/\K=.Zf k)\/(d=.string/\K=.zM)) {x:AV} {u:Value} (rx:bF (Rd X φ w) φ x u):∀(cs:List AV) (es:List MapEntry) (i:Nat) (r:Option (Nat × AV)),gP K x cs i=some r->Rn X φ w cs es ->
  ∃ q,Instr.findNow d u es i=some q/\Found X φ w es i u r q
 |[],es,i,r,h,he=>by
   obtain rfl:es=[]:=dI (by have:=he.1; simpa using this.symm);simp only[gP,af] at h;subst h;exact⟨none,rfl,rfl⟩
 |c::cs,[],i,r,h,he=>by have:=he.1; simp at this
 |c::cs,e::es,i,r,h,he=>by
   obtain⟨rc,ht⟩:=he.tail;obtain⟨k',v,rfl,GB⟩:=zI h;clear h;obtain⟨rk,rv⟩:=L6 rc
   have key:∀b,xW K x k'=some b->Instr.sameNow d u e.key=some b:=by
    intro b hb;generalize e.key=z at rk ⊢;rcases hd with⟨k,rfl,rfl⟩|⟨rfl,rfl⟩
    ·cases x<;>cases k'<;>simp only[xW] at hb<;>try (cases hb; done)
     split at hb
     ·rename_i hk;obtain⟨rfl,rfl⟩:=hk;cases rx; cases rk;simpa[Instr.sameNow] using hb
     ·cases hb
    ·cases x<;>cases k'<;>simp only[xW] at hb<;>try (cases hb; done)
     cases rx; cases rk;simpa[Instr.sameNow] using hb
   rcases GB with⟨hb,rfl⟩|⟨hb,h⟩
   ·obtain⟨q1,q2⟩:=NL hb rx rk;exact⟨some (i,e.val),by simp only[Instr.findNow,key _ hb],e,aI _,by simp,rfl,rv,q1.symm,q2⟩
   ·obtain⟨q,h1,h2⟩:=xb hd rx cs es (i+1) r h ht;exact⟨q,by simp only[Instr.findNow,key _ hb]; exact h1,h2.next⟩
theorem Jy {t:TypeId} {l:List Bool} (hc:rO P t (.kst l)=true) {x:AV} {u:Value} (rx:bF (Rd X φ w) φ x u):∀(cs:List AV) (es:List MapEntry) (i:Nat) (r:Option (Nat × AV)),gP (.kst l) x cs i=some r->Rn X φ w cs es ->
  ∃ q,(Instr.findAsking t u es i).run P w=.ok q w/\Found X φ w es i u r q
 |[],es,i,r,h,he=>by
   obtain rfl:es=[]:=dI (by have:=he.1; simpa using this.symm);simp only[gP,af] at h;subst h;exact⟨none,rfl,rfl⟩
 |c::cs,[],i,r,h,he=>by have:=he.1; simp at this
 |c::cs,e::es,i,r,h,he=>by
   obtain⟨rc,ht⟩:=he.tail;obtain⟨k',v,rfl,GB⟩:=zI h;clear h;obtain⟨rk,rv⟩:=L6 rc
   have key:∀b,xW (.kst l) x k'=some b->(Op.equal t u e.key).run P w=.ok b w:=by
    intro b hb;generalize e.key=z at rk ⊢;cases x<;>cases k'<;>simp only[xW] at hb<;>try (cases hb; done)
    exact acF hc hb rx rk
   rcases GB with⟨hb,rfl⟩|⟨hb,h⟩
   ·obtain⟨q1,q2⟩:=NL hb rx rk;exact⟨some (i,e.val),by simp[Instr.findAsking,key _ hb],e,aI _,by simp,rfl,rv,q1.symm,q2⟩
   ·obtain⟨q,h1,h2⟩:=Jy hc rx cs es (i+1) r h ht;exact⟨q,by simp only[Instr.findAsking,Sem.run_bind,key _ hb,Result.andThen_ok,bp,if_false]; exact h1,h2.next⟩
theorem Ot {t:TypeId} {K:Kt} (hc:rO P t K=true) {x:AV} {u:Value} (rx:bF (Rd X φ w) φ x u) {cs:List AV} {es:List MapEntry} {r:Option (Nat × AV)} (h:gP K x cs 0=some r) (he:Rn X φ w cs es) :
  ∃ q,(Instr.findKey t u es).run P w=.ok q w/\Found X φ w es 0 u r q:=by
 cases K with
 |Zf k=>
   simp only[rO] at hc;split at hc
   ·rename_i k' hu;simp only[decide_eq_true_eq] at hc;subst hc;obtain⟨q,h1,h2⟩:=xb (d:=.int k) (.inl ⟨k,rfl,rfl⟩) rx cs es 0 r h he;exact⟨q,MapKept.run_findKey hu h1,h2⟩
   ·cases hc
 |zM=>
   simp only[rO] at hc;split at hc
   ·rename_i hu;obtain⟨q,h1,h2⟩:=xb (d:=.string) (.inr ⟨rfl,rfl⟩) rx cs es 0 r h he;exact⟨q,MapKept.run_findKey hu h1,h2⟩
   ·cases hc
 |kst l=>
   obtain⟨q,h1,h2⟩:=Jy hc rx cs es 0 r h he;simp only[rO] at hc;split at hc
   ·rename_i fs hu;exact⟨q,by rw[run_findKey_eq w (by rw[hu]) u es]; exact h1,h2⟩
   ·cases hc
theorem Ad (em:Bool) (n:Nat):∀(fs:List Field) (l:List Bool) (off:Nat) (xs:List AV) (vx:Array Value),sX P off fs l=true->yp l (xs.drop off) (xs.drop off)=some true->xs.length=vx.size ->
  (∀(i:Nat) (c:AV) (v:Value),xs[i]?=some c->vx[i]?=some v->bF (Rd X φ w) φ c v) ->
  (forIn (m := Sem) fs HH (fun f _ => if f.name ≠ "_" then (do
    let z <- part f.type vx f.offset
    Instr.checkKey em (n+1) f.type z
    pure (RB HH)) else pure (RB HH))).run P w=.ok HH w
 |[],_,_,_,_,_,_,_,_=>rfl
 |f::fs,[],off,xs,vx,h,_,_,_=>by simp[sX] at h
 |f::fs,b::l,off,xs,vx,h,he,hl,hr=>by
   simp only[sX,ae,decide_eq_true_eq] at h;obtain⟨⟨⟨KL,Bd⟩,Ei⟩,Jo⟩:=h
   have cell:∀(z:AV) (r:List AV),xs.drop off=z::r->(∃v,vx[off]?=some v)/\xs[off]?=some z/\xs.drop (off+1)=r:=by
    intro z r hd
    have h0:xs[off]?=some z:=by
     have h:=congrArg (·[0]?) hd;simp only[aW,LJ,DM] at h;exact h
    refine⟨bW (by have:=ak h0; omega),h0,?_⟩;rw[<-List.tail_drop,hd]; rfl
   split at Ei
   ·rename_i k hu;subst Ei;have Bf:kD P f.type=some none:=by simp[kD,hu]
    have hna:=nN (P:=P) (w:=w) Bf;obtain⟨kx,a,r,b',s,e',hdx,_,hee,h9⟩:=K3 he;obtain⟨⟨vx0,Zw⟩,zQ,hx1⟩:=cell _ _ hdx;obtain rfl:=gE (hr off _ vx0 zQ Zw);obtain⟨k',hk'⟩:∃k',k'=k:=⟨k,rfl⟩
    have ih:=Ad em n fs l (off+1) xs vx Jo (by
     rw[hx1];rename_i Du
     have:s=r:=by
      have:=hdx.symm.trans ‹xs.drop off=.int kx b'::s›;simp at this;exact this.2.symm
     subst this;rw[hee];simp only[CK,ae] at h9;rw[h9.2]) hl hr
    rw[List.forIn_cons]
    have ck:(Instr.checkKey em (n+1) f.type (.int kx a)).run P w=.ok () w:=by
     unfold Instr.checkKey;simp only[Sem.run_bind,run_underlying hu,Result.andThen_ok];rfl
    simp only[Bd,ne_eq,not_false_eq_true,if_true,part,Sem.run_bind,hna,Result.andThen_ok,bp,if_false,KL,Zw,Sem.run_pure,ck];exact ih
   ·rename_i hu;simp only[bt] at Ei;subst Ei;have Bf:kD P f.type=some none:=by simp[kD,hu]
    have hna:=nN (P:=P) (w:=w) Bf;obtain⟨a,r,b',s,e',hdx,_,hee,h9⟩:=GO he;obtain⟨⟨vx0,Zw⟩,zQ,hx1⟩:=cell _ _ hdx;obtain rfl:=lY (hr off _ vx0 zQ Zw)
    have ih:=Ad em n fs l (off+1) xs vx Jo (by
     rw[hx1]
     have:s=r:=by
      have:=hdx.symm.trans ‹xs.drop off=.bool b'::s›;simp at this;exact this.2.symm
     subst this;rw[hee];simp only[CK,ae] at h9;rw[h9.2]) hl hr
    rw[List.forIn_cons]
    have ck:(Instr.checkKey em (n+1) f.type (.bool a)).run P w=.ok () w:=by
     unfold Instr.checkKey;simp only[Sem.run_bind,run_underlying hu,Result.andThen_ok];rfl
    simp only[Bd,ne_eq,not_false_eq_true,if_true,part,Sem.run_bind,hna,Result.andThen_ok,bp,if_false,KL,Zw,Sem.run_pure,ck];exact ih
   ·cases Ei
theorem JP {t:TypeId} {K:Kt} (hc:rO P t K=true) {x:AV} {u:Value} (rx:bF (Rd X φ w) φ x u) (hs:xW K x x=some true) (em:Bool):(Instr.checkKey em 10000 t u).run P w=.ok () w:=by
 cases K with
 |Zf k=>
   simp only[rO] at hc;split at hc
   ·rename_i k' hu;cases x<;>simp only[xW] at hs<;>try (cases hs; done)
    cases rx;unfold Instr.checkKey;simp only[Sem.run_bind,run_underlying hu,Result.andThen_ok];rfl
   ·cases hc
 |zM=>
   simp only[rO] at hc;split at hc
   ·rename_i hu;cases x<;>simp only[xW] at hs<;>try (cases hs; done)
    cases rx;unfold Instr.checkKey;simp only[Sem.run_bind,run_underlying hu,Result.andThen_ok];rfl
   ·cases hc
 |kst l=>
   simp only[rO] at hc;split at hc
   ·rename_i fs hu;simp only[ae,bt] at hc;cases x<;>simp only[xW] at hs<;>try (cases hs; done)
    rename_i xs;cases rx with
    |agg _ _ vx hl hr=>
      have h:=Ad (X:=X) (φ:=φ) (w:=w) em 9998 fs.toList l 0 xs vx hc.2 (by simpa using hs) hl hr;unfold Instr.checkKey;simp only[Sem.run_bind,run_underlying hu,Result.andThen_ok];simp only[Nat.reduceAdd] at h;rw[<-Array.forIn_toList,h];rfl
   ·cases hc
theorem A2 {x:AV} {b:Nat} (h:mapOf x=some b):x=nB b:=by
 unfold mapOf at h;split at h
 ·simp only[af] at h; subst h; rfl
 ·cases h
theorem tU {R:Addr->Value->Prop} {b:Nat} {v:Value} (h:bF R φ (nB b) v):∃r,v=.map (some r)/\∀ g sz:Nat,φ[b]?=some (some (g,sz))->r=g/\sz=0:=by
 unfold nB at h;cases h with
 |func _ _ _ _ _ _ hy=>cases hy
 |zC _ _ r hb h=>exact⟨r,rfl,h⟩
theorem Y2 (hh:bV X φ w H) {b:Nat} {cs:List AV} (hb:aJ H b=some cs) {v:Value} (r:bF (Rd X φ w) φ (nB b) v):∃g es Pj,v=.map (some g)/\φ[b]?=some (some (g,0))/\w.heap[g]?=some (.map es Pj)/\¬ X g/\Rn X φ w cs es.toList:=by
 obtain⟨g,rfl,hg⟩:=tU r;obtain⟨g',sz,arr,o,h1,h2,h3,h4,h5,h6⟩:=hh.at hb;obtain⟨rfl,rfl⟩:=hg g' sz h1;rcases h3 with⟨e,_,h3⟩|⟨es,Pj,rfl,_,rfl⟩
 ·omega
 ·refine⟨g,es,Pj,rfl,h1,h2,h5,by have:=h4.2 rfl; simpa using this,fun i c e hc he=>?_⟩;obtain⟨u,hu,r⟩:=h6 i c hc;rw[rW] at hu;rw[eL] at he;rw[he] at hu;simp only[cj,af] at hu;rw[<-hu] at r;exact r
theorem abc {t:TypeId} (eP:o.op=.makeMap t none) (hh:bV X φ w H):Ok P X φ w o a (nB H.length) (H++[some []]):=by
 obtain⟨h1,h2⟩:=hh.afZ (w':=w.alloc (.map #[] 0)) rfl rfl rfl rfl (aI _);refine Ok.value (v':=.map (some w.heap.size)) ?_ ?_ h1 h2
 ·have hm:(Instr.makeMap t none).run P w=.ok (.map (some w.heap.size)) (w.alloc (.map #[] 0)):=rfl;simp[execOp,eP,hm]
 ·refine .zC _ _ _ (by simp[hh.len]) fun g sz hg=>?_;rw[<-hh.len] at hg;simp at hg;exact⟨hg.1,hg.2.symm⟩
theorem abf {t kt et:TypeId} {x k:Operand} {K:Kt} {ok:Bool} {z xv kv:AV} {b:Nat} {cs:List AV} {r:Option (Nat × AV)} (eP:o.op=.lookup t x k ok) (hh:bV X φ w H) (hu:P.underlying t=some (.map kt et)) (hc:rO P kt K=true) (hz:J4 P et z=true)
  (rx:bF (Rd X φ w) φ xv (a.eval x)) (rk:bF (Rd X φ w) φ kv (a.eval k)) (hx:mapOf xv=some b) (hb:aJ H b=some cs) (hs:xW K kv kv=some true) (hf:gP K kv cs 0=some r):Ok P X φ w o a (Wa ok z r) H:=by
 obtain rfl:=A2 hx;obtain⟨g,es,Pj,hv,jU,hg,hX,he⟩:=Y2 hh hb rx;obtain⟨q,hq,hfd⟩:=Ot hc rk hf he;have hck:=JP hc rk hs es.isEmpty;unfold J4 at hz;split at hz
 case h_2=>cases hz
 rename_i inf hi;split at hz
 case h_2=>cases hz
 rename_i zv hzv;have rz:=CB (R:=Rd X φ w) (ψ:=φ) hz
 have go:∀(v:Value),(match q with
   |some (_,v)=>(v,true)
   |none=>(zv,false))=(v,q.isSome)->(execOp a.eval o).run P w=.ok (.value (if ok then .tuple #[v,.bool q.isSome] else v)) w:=by
  intro v hvv;simp only[execOp,eP,hv,Instr.lookup,Sem.run_bind,run_underlying hu,Result.andThen_ok,MapKept.run_getObj_map hg,hck,hq,Sem.run_pure];cases q with
  |none=>
    simp only[aB] at hvv;obtain⟨rfl,_⟩:=hvv;simp[re hi hzv]
  |some p=>
    obtain⟨n,u⟩:=p;simp only[aB] at hvv;obtain⟨rfl,_⟩:=hvv;simp
 cases r with
 |none=>
   obtain rfl:q=none:=hfd;refine Ok.quiet (go zv rfl) ?_ hh;cases ok
   ·exact rz
   ·exact AG rz (.bool _ _)
 |some p=>
   obtain⟨n,v⟩:=p;obtain⟨e,_,_,rfl,rv,_⟩:=hfd;refine Ok.quiet (go e.val rfl) ?_ hh;cases ok
   ·exact rv
   ·exact AG rv (.bool _ _)
theorem abb {t kt et:TypeId} {x k y:Operand} {K:Kt} {xv kv yv:AV} {b:Nat} {cs:List AV} {r:Option (Nat × AV)} (eP:o.op=.mapUpdate t x k y) (hh:bV X φ w H) (hu:P.underlying t=some (.map kt et)) (hc:rO P kt K=true)
  (rx:bF (Rd X φ w) φ xv (a.eval x)) (rk:bF (Rd X φ w) φ kv (a.eval k)) (ry:bF (Rd X φ w) φ yv (a.eval y)) (hx:mapOf xv=some b) (hb:aJ H b=some cs) (hs:xW K kv kv=some true) (hf:gP K kv cs 0=some r):Ok P X φ w o a .undef (H.set b (some (zD kv yv cs r))):=by
 obtain rfl:=A2 hx;obtain⟨g,es,Pj,hv,jU,hg,hX,he⟩:=Y2 hh hb rx;obtain⟨q,hq,hfd⟩:=Ot hc rk hf he;have hck:=JP hc rk hs false;obtain⟨s1,s2⟩:=MapKept.heap_set (o':=Obj.map (es.push { key:=a.eval k,val:=a.eval y,born:=Pj }) (Pj+1)) hg;have ents:∀(i:Nat) (c:AV) (e:MapEntry),cs[i]?=some c->es[i]?=some e->bF (Rd X φ w) φ c (.tuple #[e.key,e.val]):=fun i c e h1 h2=>he.2 i c e h1 (by rw[eL]; exact h2);have hlen:cs.length=es.size:=by have:=he.1; simpa using this
 cases r with
 |none=>
   obtain rfl:q=none:=hfd
   obtain⟨h1,h2⟩:=hh.Xs (b:=b) (g:=g) (w':={ w with heap:=w.heap.setIfInBounds g (Obj.map (es.push { key:=a.eval k,val:=a.eval y,born:=Pj }) (Pj+1)) }) (es':=es.push { key:=a.eval k,val:=a.eval y,born:=Pj }) (clk':=Pj+1) (cs':=zD kv yv cs none) jU s1 s2 (by simp) rfl rfl rfl (aI _) hX (by simp[zD,hlen]) (fun i c hi=>by
    unfold zD at hi;simp only at hi;rw[rW,zc];by_cases bQ:i<cs.length
    ·rw[az bQ] at hi;obtain⟨e,he'⟩:=bW (l:=es) (i:=i) (by omega);rw[if_neg (by omega),he'];exact⟨_,rfl,ents i c e hi he'⟩
    ·have ye:=ak hi;simp at ye;have hie:i=cs.length:=by omega
     subst hie;rw[aN (aI _)] at hi;simp at hi;subst hi;rw[if_pos hlen];exact⟨_,rfl,AG rk ry⟩)
   refine Ok.skip ?_ h1 h2;simp only[execOp,eP,hv,Instr.mapUpdate,Sem.run_bind,run_underlying hu,Result.andThen_ok,MapKept.run_getObj_map hg,hck,hq,MapKept.run_setObj_map _ hg];rfl
 |some p=>
   obtain⟨n,v⟩:=p;obtain⟨e,_,hen,rfl,rv,hkey,Gz⟩:=hfd;rw[Pm] at hen;have hen':es[n]?=some e:=by rw[<-eL]; exact hen
   obtain⟨s1,s2⟩:=MapKept.heap_set (o':=Obj.map (es.modify n fun e=>{ e with key:=a.eval k,val:=a.eval y }) Pj) hg
   obtain⟨h1,h2⟩:=hh.Xs (b:=b) (g:=g) (w':={ w with heap:=w.heap.setIfInBounds g (Obj.map (es.modify n fun e=>{ e with key:=a.eval k,val:=a.eval y }) Pj) }) (es':=es.modify n fun e=>{ e with key:=a.eval k,val:=a.eval y }) (clk':=Pj) (cs':=zD kv yv cs (some (n,v))) jU s1 s2 (by simp) rfl rfl rfl (aI _) hX (by simp[zD,hlen]) (fun i c hi=>by
    unfold zD at hi;simp only at hi;rw[rW,Array.getElem?_modify];rw[aX] at hi;by_cases hni:n=i
    ·subst hni;rw[if_pos rfl] at hi ⊢;split at hi
     ·simp at hi;subst hi;rw[hen'];exact⟨_,rfl,AG rk ry⟩
     ·simp at hi
    ·rw[if_neg hni] at hi ⊢;obtain⟨e',he'⟩:=bW (l:=es) (i:=i) (by have:=ak hi; omega);rw[he'];exact⟨_,rfl,ents i c e' hi he'⟩)
   refine Ok.skip ?_ h1 h2
   have hks:(Instr.keyThatStays (((es[n]?).map (·.key)).getD (a.eval k)) (a.eval k)).run P w=.ok (a.eval k) w:=by
    rw[hen'];simp only[cj,eZ,hkey,Instr.keyThatStays];rw[Gz 9999];simp
   simp only[execOp,eP,hv,Instr.mapUpdate,Sem.run_bind,run_underlying hu,Result.andThen_ok,MapKept.run_getObj_map hg,hck,hq,hks,MapKept.run_setObj_map _ hg];rfl
end
end Go.Am

/- Every operation; regions in the order of the text, and regions that draw their order. -/
namespace Go.Am
section
variable {P:Program} {c:dO} {X:Nat->Prop} {φ:cZ} {w:World} {env:Env} {H:Heap} {a:Act} {o:Oper}

theorem ag3 {call:Nat->List AV->Heap->Option (AV × Heap)} (cX:OX P c) (dJ:CG P c call) (he:o9 X φ w env a.tmps) (hg:dH c X φ w) (hh:bV X φ w H) {kd:Kd} {v:AV} {H':Heap} {fl:Fp}
  (hk:cK P o.op kd=true) (hs:fu c call env H kd=some (v,H',fl)):Ok P X φ w o a v H':=by
 generalize eP:o.op=op at hk;unfold cK at hk;split at hk
 case h_1=>
  simp[fu] at hs; obtain⟨rfl,rfl,_⟩:=hs;exact Ok.quiet (by simp[execOp,eP]) (bO he hg hk) hh
 case h_2=>
  simp[fu] at hs; obtain⟨rfl,rfl,_⟩:=hs;exact Ok.quiet (by simp[execOp,eP]) (bO he hg hk) hh
 case h_3=>
  simp only[ae] at hk;simp only[fu] at hs;split at hs
  case h_2=>cases hs
  rename_i t ht;simp at hs; obtain⟨rfl,rfl,_⟩:=hs;have r:=bO (a:=a) he hg hk.1.1;rw[ht] at r;exact aba eP hh r (bO he hg hk.1.2) (bO he hg hk.2)
 case h_4=>
  simp[fu] at hs; obtain⟨rfl,rfl,_⟩:=hs;exact P6 eP hh hk
 case h_5=>
  simp only[fu] at hs;split at hs
  case isFalse=>cases hs
  rename_i hl;simp at hs; obtain⟨rfl,rfl,_⟩:=hs;exact ae7 eP hh (bO he hg hk) hl
 case h_6=>
  simp only[ae] at hk;simp only[fu] at hs;split at hs
  case h_2=>cases hs
  rename_i cs hf;simp at hs; obtain⟨rfl,rfl,_⟩:=hs;exact YC eP hh he hg hk.1 hk.2 hf
 case h_7=>
  simp only[ae,decide_eq_true_eq] at hk;obtain⟨⟨⟨⟨h1,h2⟩,h3⟩,h4⟩,h5⟩:=hk;subst h1;simp only[fu] at hs;split at hs
  case h_2=>cases hs
  rename_i cs hf;split at hs
  case isFalse=>cases hs
  simp at hs; obtain⟨rfl,rfl,_⟩:=hs;exact V2 eP hh he hg h2 h3 h4 h5 hf
 case h_8=>
  simp only[ae,decide_eq_true_eq] at hk;exact ag6 eP hh (bO he hg hk.2) hk.1 hs
 case h_9=>
  simp only[ae] at hk;simp only[fu] at hs;split at hs
  case h_2=>cases hs
  rename_i b off hb;split at hs
  case h_2=>cases hs
  rename_i cs dG;split at hs
  case isFalse=>cases hs
  rename_i hc;simp at hs; obtain⟨rfl,rfl,_⟩:=hs;have r:=bO (a:=a) he hg hk.1.2;rw[hb] at r;exact Yq eP hh dG hk.1.1 r (bO he hg hk.2) hc.1 hc.2.1 hc.2.2
 case h_10=>exact Ys eP hh (bO he hg hk) hs
 case h_11=>
  simp only[ae,decide_eq_true_eq] at hk;obtain⟨⟨h1,h2⟩,h3⟩:=hk;subst h1;simp only[fu] at hs;split at hs
  case h_2=>cases hs
  rename_i r hr;simp at hs; obtain⟨rfl,rfl,_⟩:=hs;exact ae8 eP hh (bO he hg h2) (bO he hg h3) hr
 case h_12=>
  simp only[ae] at hk;obtain⟨⟨⟨h1,h2⟩,h3⟩,h4⟩:=hk;simp only[fu] at hs;split at hs
  case h_2=>cases hs
  rename_i e hr;simp at hs; obtain⟨rfl,rfl,_⟩:=hs;have:=ok_eq eP hh h1 h2 (bO he hg h3) (bO he hg h4) hr;simpa using this
 case h_13=>
  simp only[ae,decide_eq_true_eq] at hk;obtain⟨h1,h2⟩:=hk;subst h1;simp only[fu] at hs;split at hs
  case h_2=>cases hs
  rename_i r hr;simp at hs; obtain⟨rfl,rfl,_⟩:=hs;exact ag5 eP hh (bO he hg h2) hr
 case h_14=>
  simp only[ae] at hk;obtain⟨⟨h1,h2⟩,h3⟩:=hk;split at h2
  case h_2=>cases h2
  rename_i k' hu;simp at h2;subst h2;simp only[fu] at hs;split at hs
  case h_2=>cases hs
  rename_i k2 n hn;simp at hs; obtain⟨rfl,rfl,_⟩:=hs;have r:=bO (a:=a) he hg h3;rw[hn] at r;exact ae5 eP hh h1 hu r
 case h_15=>
  simp only[ae,decide_eq_true_eq] at hk;obtain⟨⟨h1,h2⟩,h3⟩:=hk;subst h1;simp[fu] at hs; obtain⟨hyf,rfl,rfl,_⟩:=hs;exact aeT eP hh he hg h2 h3 hyf
 case h_16=>
  simp only[ae] at hk;obtain⟨⟨⟨h1,h2⟩,h3⟩,h4⟩:=hk;simp only[fu] at hs;split at hs
  case h_2=>cases hs
  rename_i k1 l k2 cp hl hcp;split at hs
  case isFalse=>cases hs
  rename_i hc;simp at hs; obtain⟨rfl,rfl,_⟩:=hs;have r1:=bO (a:=a) he hg h3;have r2:=bO (a:=a) he hg h4;rw[hl] at r1;rw[hcp] at r2;exact aeS eP hh h1 h2 r1 r2 hc.1 hc.2.1 hc.2.2
 case h_17=>
  simp only[ae] at hk;obtain⟨⟨⟨h1,h2⟩,h3⟩,h4⟩:=hk;exact aeQ eP hh he hg h1 h2 h3 h4 hs
 case h_18=>
  simp only[ae] at hk;exact ae2 eP hh (bO he hg hk.2) hk.1 hs
 case h_19=>
  simp only[ae] at hk;exact ae1 eP hh (bO he hg hk.2) hk.1 hs
 case h_20=>
  simp only[ae] at hk;exact aeZ eP hh (bO he hg hk.1.2) (bO he hg hk.2) hk.1.1 hs
 case h_21=>
  simp only[ae] at hk;exact aeY eP hh (bO he hg hk.1.2) (bO he hg hk.2) hk.1.1 hs
 case h_22=>
  simp only[ae] at hk;exact ag7 eP hh (bO he hg hk.1.2) (bO he hg hk.2) hk.1.1 hs
 case h_23=>
  simp only[ae,decide_eq_true_eq] at hk;exact aeX eP hh (bO he hg hk.2) hk.1.1 hk.1.2 hs
 case h_24=>
  rename_i args argTypes k zs x;split at hk
  case h_2=>cases hk
  rename_i x' t h1 h2;simp only[ae] at hk;exact ae6 (x:=x') (t:=t) eP rfl (gg.1 h1) (gg.1 h2) hh (bO he hg hk.2) hk.1.1 hk.1.2 hs
 case h_25=>
  simp only[ae,decide_eq_true_eq] at hk;obtain⟨h1,h2⟩:=hk;subst h1;simp only[fu] at hs;split at hs
  case h_2=>cases hs
  rename_i vs hv;split at hs
  case h_2=>cases hs
  rename_i u hu;simp at hs; obtain⟨rfl,rfl,_⟩:=hs;have r:=bO (a:=a) he hg h2;rw[hv] at r;exact ae3 eP hh r hu
 case h_26=>
  simp only[ae,decide_eq_true_eq] at hk;obtain⟨h1,h2⟩:=hk;subst h1;exact abi cX dJ eP rfl hh he hg h2 hs
 case h_27=>
  simp only[ae] at hk;exact YA cX dJ eP rfl hh he hg hk.1 hk.2 hs
 case h_28=>
  rename_i args argTypes y;split at hk
  case h_2=>cases hk
  rename_i x t h1 h2;simp only[ae] at hk;exact aeV (x:=x) (t:=t) eP rfl (gg.1 h1) (gg.1 h2) hh (bO he hg hk.2) hk.1 hs
 case h_29=>
  rename_i args argTypes k x y;split at hk
  case h_2=>cases hk
  rename_i x' y' t t' h1 h2;simp only[ae,decide_eq_true_eq] at hk;obtain⟨⟨⟨h3,h4⟩,h5⟩,h6⟩:=hk;subst h3;exact afa (x:=x') (y:=y') (t:=t) eP rfl (gg.1 h1) (gg.1 h2) hh (bO he hg h5) (bO he hg h6) h4 hs
 case h_30=>
  simp only[fu] at hs;split at hs
  case h_2=>cases hs
  rename_i r hr;simp at hs; obtain⟨rfl,rfl,_⟩:=hs;exact Yv (mx:=false) eP rfl hh he hg hk hr
 case h_31=>
  simp only[fu] at hs;split at hs
  case h_2=>cases hs
  rename_i r hr;simp at hs; obtain⟨rfl,rfl,_⟩:=hs;exact Yv (mx:=true) eP rfl hh he hg hk hr
 case h_32=>
  simp only[ae] at hk;exact ae9 eP hh he hg hk.2.2 (bO he hg hk.2.1) hk.1 hs
 case h_33=>
  rename_i args argTypes k x y;split at hk
  case h_2=>cases hk
  rename_i x' y' t t' h1 h2;simp only[ae] at hk;exact abh (x:=x') (y:=y') (t:=t) (t':=t') eP rfl (gg.1 h1) (gg.1 h2) hh (bO he hg hk.1.2) (bO he hg hk.2) hk.1.1 hs
 case h_34=>
  simp only[fu,af,aB] at hs; obtain⟨rfl,rfl,_⟩:=hs;exact abc eP hh
 case h_35=>
  simp only[ae,decide_eq_true_eq] at hk;obtain⟨⟨⟨rfl,h2⟩,h3⟩,h4⟩:=hk;split at h2
  case h_2=>cases h2
  rename_i key el hu;simp only[ae] at h2;simp only[fu] at hs;split at hs
  case h_2=>cases hs
  rename_i b hb;split at hs
  case h_2=>cases hs
  rename_i es Wr;split at hs
  case isFalse=>cases hs
  rename_i hkq;split at hs
  case h_2=>cases hs
  rename_i r hr;simp only[af,aB] at hs; obtain⟨rfl,rfl,_⟩:=hs;exact abf eP hh hu h2.1 h2.2 (bO he hg h3) (bO he hg h4) hb Wr hkq hr
 case h_36=>
  simp only[ae] at hk;obtain⟨⟨⟨h2,h3⟩,h4⟩,h5⟩:=hk;split at h2
  case h_2=>cases h2
  rename_i key el hu;simp only[fu] at hs;split at hs
  case h_2=>cases hs
  rename_i b hb;split at hs
  case h_2=>cases hs
  rename_i es Wr;split at hs
  case isFalse=>cases hs
  rename_i hkq;split at hs
  case h_2=>cases hs
  rename_i r hr;simp only[af,aB] at hs; obtain⟨rfl,rfl,_⟩:=hs;exact abb eP hh hu h2 (bO he hg h3) (bO he hg h4) (bO he hg h5) hb Wr hkq hr
 case h_37=>cases hs
 case h_38=>cases hk

structure SRel (X:Nat->Prop) (φ:cZ) (w:World) (s:St) (a:Act) (N:Nat):Prop where
 env:o9 X φ w s.env a.tmps
 heap:bV X φ w s.H
 defers:a.defers=[]
 size:a.tmps.size=N

theorem X3 (a:Act) (d:Option Nat) (v:Value):(a.put d v).tmps.size=a.tmps.size/\(a.put d v).defers=a.defers:=by cases d<;>simp[Act.put]
theorem SRel.put {s:St} {N:Nat} {φ':cZ} {w':World} {d:Option Nat} {v:AV} {v':Value} {H':Heap} (h:SRel X φ w s a N) (hd:∀i,d=some i->i<N) (r:bF (Rd X φ' w') φ' v v') (hh:bV X φ' w' H') (k:eW φ w φ' w') :
  SRel X φ' w' ⟨tn s.env d v,H'⟩ (a.put d v') N:=by
 obtain⟨h1,h2⟩:=X3 a d v';refine⟨?_,hh,by rw[h2]; exact h.defers,by rw[h1]; exact h.size⟩;cases d with
 |none=>exact h.env.nO k
 |some i=>exact (h.env.nO k).put (by rw[h.size]; exact hd i rfl) r
theorem Wv {ts:Array Value} {g:Nat} {b:Bool} (h:ts.getD g undef=.bool b):ts[g]?=some (.bool b):=by
 rw[bh] at h;cases hg:ts[g]? with
 |none=>rw[hg] at h; simp[undef] at h
 |some v=>rw[hg] at h; simp at h; rw[h]
theorem QJ {ts:Array Value} {g:Nat} (h:ts.getD g undef=.tuple #[]):ts[g]?=none\/ts[g]?=some (.tuple #[]):=by
 rw[bh] at h;cases hg:ts[g]? with
 |none=>exact .inl rfl
 |some v=>rw[hg] at h; simp at h; rw[h]; exact .inr rfl

end
end Go.Am

/- Regions that draw their order: the order makes no difference. -/
namespace Go.Am
section
variable {P:Program} {c:dO} {call:Nat->List AV->Heap->Option (AV × Heap)}

theorem gz {e1 e2:Env} {x:E} (h:∀i∈x.slot,get e1 i=get e2 i):ev c e1 x=ev c e2 x:=by
 cases x with
 |t i=>exact h i (by simp[E.slot])
 |k x=>rfl
 |g i=>rfl
theorem nG {e1 e2:Env}:∀{xs:List E},(∀i∈mT xs,get e1 i=get e2 i)->En c e1 xs=En c e2 xs
 |[],_=>rfl
 |x::r,h=>by
   simp only[mT,aD] at h;simp only[En];rw[gz fun i hi=>h i (.inl hi),nG fun i hi=>h i (.inr hi)]
theorem xc {e1 e2:Env}:∀{ps:List (Nat × Nat × E)} {zs:List AV},(∀i∈rb ps,get e1 i=get e2 i)->oZ c e1 zs ps=oZ c e2 zs ps
 |[],_,_=>by simp[oZ]
 |(o,s,x)::r,zs,h=>by
   simp only[rb,aD] at h;simp only[oZ];rw[gz fun i hi=>h i (.inl hi)];split
   ·exact xc fun i hi=>h i (.inr hi)
   ·rfl
theorem Ae {e1 e2:Env} {d m:Nat} {x:Option E} (h:∀i∈Is x,get e1 i=get e2 i):Bw c e1 d m x=Bw c e2 d m x:=by
 cases x with
 |none=>rfl
 |some x=>simp only[Bw]; rw[gz h]
theorem JW {e1 e2:Env} {H:Heap} {kd:Kd} (h:∀i∈kd.reads,get e1 i=get e2 i):fu c call e1 H kd=fu c call e2 H kd:=by
 cases kd<;>simp only[Kd.reads,aD] at h<;>simp only[fu]
 case pick x y z=>rw[gz fun i hi=>h i (.inl hi),gz fun i hi=>h i (.inr (.inl hi)),gz fun i hi=>h i (.inr (.inr hi))]
 case build=>rw[xc h]
 case dV=>rw[xc h]
 case EN k x lo hi=>rw[gz fun i hi=>h i (.inl hi)]; simp only[Ae (c:=c) fun i hi=>h i (.inr (.inl hi)),Ae (c:=c) fun i hi=>h i (.inr (.inr hi))]
 case Ic n x u=>simp only[gz (c:=c) fun i hi=>h i (.inl hi),Ae (c:=c) fun i hi=>h i (.inr hi)]
 case call=>rw[nG h]
 case min=>rw[nG h]
 case max=>rw[nG h]
 case O7=>rw[nG fun i hi=>h i (.inl hi),nG fun i hi=>h i (.inr hi)]
 case iR=>rw[gz fun i hi=>h i (.inl hi),nG fun i hi=>h i (.inr hi)]
 case zB kt x k v=>rw[gz (x:=x) fun i hi=>h i (.inl hi),gz (x:=k) fun i hi=>h i (.inr (.inl hi)),gz (x:=v) fun i hi=>h i (.inr (.inr hi))]
 all_goals first
  |rfl
  |rw[gz h]
  |rw[gz fun i hi=>h i (.inl hi),gz fun i hi=>h i (.inr hi)]
theorem Hb {H:Heap} {b b':Nat} {x:Ru} (h:b≠b'):aJ (H.set b x) b'=aJ H b':=by
 unfold aJ; rw[fX h]
theorem Hd {H T:Heap} {b:Nat} (h:b<H.length):aJ (H++T) b=aJ H b:=by
 unfold aJ; rw[az h]
def CF (fp:Fp) (H H':Heap) (v:AV) (f:Heap->Option (AV × Heap × Fp)):Prop:=
 (fp=.no->H'=H/\∀ H2,f H2=some (v,H2,.no))/\(∀b,fp=.rd b->H'=H/\∀ H2,aJ H2 b=aJ H b->f H2=some (v,H2,.rd b))/\(fp=.ra->H'=H) /\
 (∀n bs,fp=.wr n bs->∀b,b<n->b∉bs->aJ H' b=aJ H b)
theorem CF.wr0 {H H':Heap} {v:AV} {f:Heap->Option (AV × Heap × Fp)}:CF (.wr 0 []) H H' v f:=
 ⟨(fun h=>by cases h),(fun b h=>by cases h),(fun h=>by cases h),fun n bs h b hb=>by cases h; omega⟩
theorem CF.no {H:Heap} {v:AV} {f:Heap->Option (AV × Heap × Fp)} (h:∀H2,f H2=some (v,H2,.no)):CF .no H H v f:=
 ⟨fun _=>⟨rfl,h⟩,(fun b h=>by cases h),fun _=>rfl,(fun n bs h=>by cases h)⟩
theorem CF.ra {H:Heap} {v:AV} {f:Heap->Option (AV × Heap × Fp)}:CF .ra H H v f:=
 ⟨(fun h=>by cases h),(fun b h=>by cases h),fun _=>rfl,(fun n bs h=>by cases h)⟩
theorem CF.rd {H:Heap} {v:AV} {b:Nat} {f:Heap->Option (AV × Heap × Fp)} (h:∀H2,aJ H2 b=aJ H b->f H2=some (v,H2,.rd b)):CF (.rd b) H H v f:=
 ⟨(fun h=>by cases h),(fun b' hb=>by cases hb; exact⟨rfl,h⟩),fun _=>rfl,(fun n bs h=>by cases h)⟩
theorem CF.wr {H H':Heap} {v:AV} {n:Nat} {bs:List Nat} {f:Heap->Option (AV × Heap × Fp)} (h:∀b,b<n->b∉bs->aJ H' b=aJ H b):CF (.wr n bs) H H' v f:=
 ⟨(fun h=>by cases h),(fun b h=>by cases h),(fun h=>by cases h),fun n' bs' e=>by cases e; exact h⟩
theorem JE {f:Nat} {args:List AV} {H H':Heap} {v:AV} {fl:Fp} (h:xe c call f args H=some (v,H',fl)):CF fl H H' v (xe c call f args):=by
 unfold xe at h;split at h
 ·cases h
 ·split at h
  ·simp at h; obtain⟨_,_,rfl⟩:=h; exact .wr0
  ·cases h
 ·split at h
  ·split at h
   ·split at h
    ·simp at h; obtain⟨_,_,rfl⟩:=h; exact .wr0
    ·cases h
   ·cases h
  ·cases h
 ·rename_i q hf;split at h
  ·rename_i hp;split at h
   ·rename_i r H1 hr;split at h
    ·rename_i r' bs hz;simp at h;obtain⟨rfl,rfl,rfl⟩:=h;exact .no fun H2=>by simp[xe,hf,hp,hr,hz]
    ·cases h
   ·cases h
  ·split at h
   ·split at h
    ·split at h
     ·split at h
      ·simp at h; obtain⟨_,rfl,rfl⟩:=h; exact .ra
      ·simp at h; obtain⟨_,_,rfl⟩:=h; exact .wr0
     ·cases h
    ·cases h
   ·cases h
theorem aaA {env:Env} {H H':Heap} {kd:Kd} {v:AV} {fl:Fp} (h:fu c call env H kd=some (v,H',fl)):CF fl H H' v (fun H2=>fu c call env H2 kd):=by
 have app:∀{T:Heap} (b:Nat),b<H.length->b∉([]:List Nat)->aJ (H++T) b=aJ H b:=fun b hb _=>Hd hb;have st:∀{x:Ru} {b0:Nat} (b:Nat),b<H.length->b∉[b0]->aJ (H.set b0 x) b=aJ H b:=fun b _ hn=>Hb (by simp at hn; exact fun e=>hn e.symm)
 have mv:∀{x:Ru} {T:Heap} {b0:Nat} (b:Nat),b<H.length->b∉[b0]->aJ (H.set b0 x++T) b=aJ H b:=fun b hb hn=>by
  rw[Hd (by simpa using hb)]; exact Hb (by simp at hn; exact fun e=>hn e.symm)
 have same:∀(b:Nat),b<H.length->b∉([]:List Nat)->aJ H b=aJ H b:=fun _ _ _=>rfl;cases kd
 case call f xs=>simp only[fu] at h ⊢; exact JE h
 case iR x xs=>
  simp only[fu] at h ⊢;split at h
  ·exact JE h
  ·cases h
 case ld ag x=>
  simp only[fu] at h ⊢;split at h
  ·rename_i cs hx;split at h
   ·rename_i u hu;simp at h;obtain⟨rfl,rfl,rfl⟩:=h;exact .no fun H2=>by simp[hu]
   ·cases h
  ·rename_i b off hx;split at h
   ·rename_i cs hb;split at h
    ·rename_i u hu;simp at h;obtain⟨rfl,rfl,rfl⟩:=h;exact .rd fun H2 h2=>by simp[h2,hb,hu]
    ·cases h
   ·cases h
  ·cases h
 case Ic n x hi=>
  simp only[fu] at h ⊢;split at h
  case h_2=>cases h
  rename_i m hm;split at h
  ·split at h
   ·rename_i hc;simp at h;obtain⟨rfl,rfl,rfl⟩:=h;exact .no fun H2=>by simp[hc]
   ·cases h
  ·rename_i b off hx;split at h
   ·rename_i cs hb;split at h
    ·rename_i hc;simp at h;obtain⟨rfl,rfl,rfl⟩:=h;exact .rd fun H2 h2=>by simp[h2,hb,hc]
    ·cases h
   ·cases h
  ·cases h
 case yH kt ok z x k=>
  simp only[fu] at h ⊢;split at h
  case h_2=>cases h
  rename_i b hx;split at h
  case h_2=>cases h
  rename_i es hb;split at h
  case isFalse=>cases h
  rename_i hq;split at h
  case h_2=>cases h
  rename_i r hr;simp at h;obtain⟨rfl,rfl,rfl⟩:=h;exact .rd fun H2 h2=>by simp[h2,hb,hq,hr]
 all_goals simp only[fu] at h ⊢
 all_goals
  (repeat' split at h)
  all_goals first
   |(cases h; done)
   |(simp at h; obtain⟨rfl,rfl,rfl⟩:=h; first|exact .wr app|exact .wr st|exact .wr mv|exact .wr same|(refine .no fun H2=>?_; simp_all; done))
def q8 (c:dO) (call:Nat->List AV->Heap->Option (AV × Heap)) (env:Env) (H:Heap) (o:O):Option (AV × Heap × Fp):=
 match o.guard with
 |none=>fu c call env H o.kd
 |some (g,want)=>match get env g with
   |.bool b=>if b=want then fu c call env H o.kd else some (.undef,H,.no)
   |.undef=>some (.undef,H,.no)
   |_=>none
theorem v7 {e1 e2:Env} {H:Heap} {q:O} (h:∀i∈q.reads,get e1 i=get e2 i):q8 c call e1 H q=q8 c call e2 H q:=by
 unfold q8;unfold O.reads at h;simp only[aD] at h;cases hg:q.guard with
 |none=>simp only[hg] at h ⊢; exact JW fun i hi=>h i (.inr hi)
 |some p=>
   obtain⟨g,want⟩:=p;simp only[hg] at h ⊢;rw[h g (.inl (by simp)),JW fun i hi=>h i (.inr hi)]
theorem LS {env:Env} {H H':Heap} {q:O} {v:AV} {fl:Fp} (h:q8 c call env H q=some (v,H',fl)):CF fl H H' v (fun H2=>q8 c call env H2 q):=by
 unfold q8 at h ⊢;cases hg:q.guard with
 |none=>simp only[hg] at h ⊢; exact aaA h
 |some p=>
   obtain⟨g,want⟩:=p;simp only[hg] at h ⊢;split at h
   ·split at h
    ·rename_i QE; simp only[QE,if_true]; exact aaA h
    ·rename_i QE; simp only[QE,if_false]; simp at h; obtain⟨rfl,rfl,rfl⟩:=h; exact .no fun _=>rfl
   ·simp at h; obtain⟨rfl,rfl,rfl⟩:=h; exact .no fun _=>rfl
   ·cases h
theorem mem_iff {i:Nat}:∀{l:List Nat},mem i l=true ↔ i∈l
 |[]=>by simp[mem]
 |j::r=>by
   unfold mem;split
   ·rename_i h; simp[h]
   ·rename_i h; rw[mem_iff]; simp[h]
theorem jL {env:Env} {d:Option Nat} {v:AV} {i:Nat} (h:d≠some i):get (tn env d v) i=get env i:=by
 cases d with
 |none=>rfl
 |some d=>simp only[tn,bD]; rw[if_neg fun e=>h (by rw[e])]
theorem ab4 {env:Env} {H H1 H2:Heap} {x y:O} {v1 v2:AV} {f1 f2:Fp} (hx:q8 c call env H x=some (v1,H1,f1)) (hy:q8 c call (tn env x.dst v1) H1 y=some (v2,H2,f2))
  (Cr:iY x y=true) (hf:f1.ok f2=true) :
  ∃ H2',q8 c call env H y=some (v2,H2',f2)/\q8 c call (tn env y.dst v2) H2' x=some (v1,H2,f1)/\∀ i,get (tn (tn env x.dst v1) y.dst v2) i=get (tn (tn env y.dst v2) x.dst v1) i:=by
 have a1:∀d,x.dst=some d->d∉y.reads/\y.dst≠some d:=by
  intro d hd;simp only[iY,hd,ae,bt,decide_eq_true_eq] at Cr;refine⟨fun h=>?_,Cr.1.2⟩;have:=mem_iff.2 h;rw[Cr.1.1] at this;cases this
 have a2:∀d,y.dst=some d->d∉x.reads:=by
  intro d hd h;simp only[iY,hd,ae,bt] at Cr;have:=mem_iff.2 h;rw[Cr.2] at this;cases this
 have cy:∀Hq,q8 c call (tn env x.dst v1) Hq y=q8 c call env Hq y:=fun Hq=>v7 fun i hi=>jL fun e=>(a1 i e).1 hi;have cx:∀Hq,q8 c call (tn env y.dst v2) Hq x=q8 c call env Hq x:=fun Hq=>v7 fun i hi=>jL fun e=>a2 i e hi
 have he:∀i,get (tn (tn env x.dst v1) y.dst v2) i=get (tn (tn env y.dst v2) x.dst v1) i:=by
  intro i;by_cases h1:x.dst=some i
  ·have h2:=(a1 i h1).2;rw[jL h2,h1];simp[tn,bD]
  ·rw[jL (env:=tn env y.dst v2) h1];by_cases h2:y.dst=some i
   ·rw[h2]; simp[tn,bD]
   ·rw[jL h2,jL h2,jL h1]
 rw[cy] at hy;obtain⟨g0,g1,g2,g3⟩:=LS hx;obtain⟨k0,k1,k2,k3⟩:=LS hy;have nm:∀{b:Nat} {bs:List Nat},mem b bs=false->b∉bs:=fun h hm=>by rw[mem_iff.2 hm] at h; cases h
 cases f1 with
 |no=>
   obtain⟨rfl,h0⟩:=g0 rfl;exact⟨H2,hy,by rw[cx]; exact h0 H2,he⟩
 |rd b=>
   obtain⟨rfl,h0⟩:=g1 b rfl;cases f2 with
   |no=>obtain⟨rfl,_⟩:=k0 rfl; exact⟨_,hy,by rw[cx]; exact hx,he⟩
   |rd b'=>obtain⟨rfl,_⟩:=k1 b' rfl; exact⟨_,hy,by rw[cx]; exact hx,he⟩
   |ra=>obtain rfl:=k2 rfl; exact⟨_,hy,by rw[cx]; exact hx,he⟩
   |wr n bs=>
     simp only[Fp.ok,ae,decide_eq_true_eq,bt] at hf;exact⟨H2,hy,by rw[cx]; exact h0 H2 (k3 n bs rfl b hf.1 (nm hf.2)),he⟩
 |ra=>
   obtain rfl:=g2 rfl;cases f2 with
   |no=>obtain⟨rfl,_⟩:=k0 rfl; exact⟨_,hy,by rw[cx]; exact hx,he⟩
   |rd b'=>obtain⟨rfl,_⟩:=k1 b' rfl; exact⟨_,hy,by rw[cx]; exact hx,he⟩
   |ra=>obtain rfl:=k2 rfl; exact⟨_,hy,by rw[cx]; exact hx,he⟩
   |wr n bs=>simp[Fp.ok] at hf
 |wr n bs=>
   cases f2 with
   |no=>obtain⟨rfl,h0⟩:=k0 rfl; exact⟨H,h0 H,by rw[cx]; exact hx,he⟩
   |rd b=>
     obtain⟨rfl,h0⟩:=k1 b rfl;simp only[Fp.ok,ae,decide_eq_true_eq,bt] at hf;exact⟨H,h0 H (g3 n bs rfl b hf.1 (nm hf.2)).symm,by rw[cx]; exact hx,he⟩
   |ra=>simp[Fp.ok] at hf
   |wr n' bs'=>simp[Fp.ok] at hf

abbrev Ent:=Nat × Oper × O × Fp
def Ll (c:dO) (call:Nat->List AV->Heap->Option (AV × Heap)):List Ent->Env->Heap->Env->Heap->Prop
 |[],e,H,e',H'=>(∀i,get e i=get e' i)/\H=H'
 |p::r,e,H,e',H'=>∃v H1,q8 c call e H p.2.2.1=some (v,H1,p.2.2.2)/\Ll c call r (tn e p.2.2.1.dst v) H1 e' H'
theorem Ll.congr:∀{R:List Ent} {e1 e2:Env} {H:Heap} {e':Env} {H':Heap},(∀i,get e1 i=get e2 i)->Ll c call R e1 H e' H'->Ll c call R e2 H e' H'
 |[],e1,e2,H,e',H',h,hr=>⟨fun i=>(h i).symm.trans (hr.1 i),hr.2⟩
 |p::r,e1,e2,H,e',H',h,⟨v,H1,h1,h2⟩=>by
   refine⟨v,H1,by rw[<-v7 fun i _=>h i]; exact h1,Ll.congr (fun i=>?_) h2⟩;cases hd:p.2.2.1.dst with
   |none=>exact h i
   |some d=>simp only[tn,bD]; rw[h i]
theorem Ll.K9 {x:Ent}:∀{R1 R2:List Ent} {e:Env} {H:Heap} {e':Env} {H':Heap},(∀p∈R1,iY p.2.2.1 x.2.2.1=true/\p.2.2.2.ok x.2.2.2=true)->Ll c call (R1++x::R2) e H e' H'->Ll c call (x::(R1++R2)) e H e' H'
 |[],R2,e,H,e',H',_,hr=>hr
 |p::R1,R2,e,H,e',H',h,⟨v,H1,h1,h2⟩=>by
   obtain⟨v2,H2,h3,h4⟩:=Ll.K9 (fun q hq=>h q (by simp[hq])) h2;obtain⟨Cr,hf⟩:=h p (by simp);obtain⟨H2',k1,k2,k3⟩:=ab4 h1 h3 Cr hf;exact⟨v2,H2',k1,v,H2,k2,h4.congr k3⟩

inductive Anc (ops:Array Oper) (i:Nat):Nat->Prop
 |one {j:Nat} {o:Oper} (ho:ops[j]?=some o) (h:i∈direct o):Anc ops i j
 |via {j k:Nat} {o:Oper} (ho:ops[j]?=some o) (h:k∈direct o) (ha:Anc ops i k):Anc ops i j
theorem zJ {o:Oper} {i:Nat}:i∈direct o ↔ ∃e∈o.after,Region.binds .any e=true/\e.on=i:=by
 unfold direct;simp only[List.mem_map,List.mem_filter,Py];constructor
 ·rintro⟨e,⟨h1,h2⟩,h3⟩; exact⟨e,h1,h2,h3⟩
 ·rintro⟨e,h1,h2,h3⟩; exact⟨e,⟨h1,h2⟩,h3⟩
def Rr (ops:Array Oper) (listed:Array Bool):Prop:=∀j o,ops[j]?=some o->listed.getD j false=true->∀i∈direct o,listed.getD i false=true
theorem Rr.BA {ops:Array Oper} {listed:Array Bool} (h:Rr ops listed) {i j:Nat} (ha:Anc ops i j):∀o,ops[j]?=some o->(∀k∈direct o,listed.getD k false=true)->listed.getD i false=true:=by
 induction ha with
 |one ho hm=>intro o ho' hd; rw[ho] at ho'; cases ho'; exact hd _ hm
 |via ho hm ha ih=>
   intro o ho' hd;rw[ho] at ho';cases ho';have hk:=hd _ hm;cases ha with
   |one ho2 hm2=>exact h _ _ ho2 hk _ hm2
   |via ho2 hm2 ha2=>exact ih _ ho2 fun l hl=>h _ _ ho2 hk l hl
def aaF (ops:Array Oper) (BA:List (List Nat)):Prop:=∀j l,BA[j]?=some l->∀i∈l,Anc ops i j
theorem yq {i:Nat}:∀{l:List Nat},i∈dedup l->i∈l
 |[],h=>by simp[dedup] at h
 |x::r,h=>by
   unfold dedup at h;split at h
   ·exact dm _ (yq h)
   ·rcases aO.1 h with h|h
    ·subst h; simp
    ·exact dm _ (yq h)
theorem OS {ops:Array Oper} {BA:List (List Nat)} (h:aaF ops BA) {j:Nat} {o:Oper} (ho:ops[j]?=some o):∀i∈Hm BA o,Anc ops i j:=by
 intro i hi;unfold Hm at hi;rcases aD.1 (yq hi) with hi|hi
 ·exact .one ho hi
 ·obtain⟨k,hk,vT⟩:=List.mem_flatMap.1 hi;refine .via ho (yq hk) ?_;rw[List.getD_eq_getElem?_getD] at vT;cases hl:BA[k]? with
  |none=>rw[hl] at vT; simp at vT
  |some l=>rw[hl] at vT; exact h k l hl i vT
end
end Go.Am

/- A run of the compact code is a run of the dump's code; calls; the theorem that ties a call to the kit's 'Calls'. -/
namespace Go.Am
section
variable {P:Program} {c:dO}

def Ex.to:Ex->Exit
 |.normal=>.normal
 |.exit id=>.exit id
 |.ret=>.ret

def LW (P:Program) (cd:Code) (Q:Exit->Act->World->Prop) (a:Act) (w:World):Prop:=
 ∀ (b:Frame) (k:List Item) (cs:List Frame),∃e a' w',Q e a' w'/\Arrives P (lone (b.at a (.code cd::.inLoop cd::k)) cs w) b k cs e a' w'
theorem LW.loop {cd:Code} {Q:Exit->Act->World->Prop} {a:Act} {w:World} (h:LW P cd Q a w):(Code.loop cd).wp P Q a w:=by
 intro b k cs;obtain⟨e,a',w',hq,Ob⟩:=h b k cs;exact⟨e,a',w',hq,.of_steps (.one step_loop) Ob⟩
theorem LW.step {cd:Code} {Q:Exit->Act->World->Prop} {a:Act} {w:World} (h:cd.wp P (Exit.then (LW P cd Q) Q) a w):LW P cd Q a w:=by
 intro b k cs;obtain⟨e,a1,w1,hq,Ob⟩:=h b (.inLoop cd::k) cs;cases e with
 |normal=>
   obtain⟨e2,a2,w2,hq2,ahw⟩:=hq b k cs;exact⟨e2,a2,w2,hq2,.of_steps (Steps.trans Ob (.one step_inLoop)) ahw⟩
 |exit id=>exact⟨_,a1,w1,hq,.pass (x:=.inLoop cd) rfl (fun _ _=>.inl (by simp)) Ob⟩
 |goto l=>exact⟨_,a1,w1,hq,.pass (x:=.inLoop cd) rfl (fun _ _=>.inl (by simp)) Ob⟩
 |ret=>exact⟨_,a1,w1,hq,.pass (x:=.inLoop cd) rfl (fun _ _=>.inl (by simp)) Ob⟩
 |panic ch=>exact⟨_,a1,w1,hq,.pass (x:=.inLoop cd) rfl (fun _ _=>.inl (by simp)) Ob⟩
 |outgrown=>exact⟨_,a1,w1,hq,.pass (x:=.inLoop cd) rfl (fun _ _=>.inl (by simp)) Ob⟩

theorem tE:∀(args:List AV) (k i:Nat),get (dN k args) i=if k<=i then args[i-k]?.getD .any else .any
 |[],k,i=>by simp[dN,get]
 |x::r,k,i=>by
   simp only[dN,get];by_cases h:i=k
   ·subst h; simp
   ·rw[if_neg h,tE r (k+1) i];by_cases h2:k+1<=i
    ·rw[if_pos h2,if_pos (by omega),show i-k=(i-(k+1))+1 by omega,mS]
    ·rw[if_neg h2,if_neg (by omega)]
theorem XF {X:Nat->Prop} {φ:cZ} {w:World} {s:St} {ts:Array Value} (he:o9 X φ w s.env ts) (hh:bV X φ w s.H):∀{rs:List ResultVar} {qs:List Rv} {xs:List AV},DG P rs qs=true->L5 s.H s.env qs=some xs ->
  ∃ vs:List Value,(rs.mapM (m:=Sem) fun
   |.tmp t=>pure (ts.getD t undef)
   |.cell a t=>do loadVar t (<- asAddr (ts.getD a undef))).run P w=.ok vs w/\Cs X φ w xs vs
 |[],[],xs,_,h=>by simp[L5] at h; subst h; exact⟨[],rfl,rfl,fun i c v hc=>by simp at hc⟩
 |[],_::_,_,h,_=>by simp[DG] at h
 |_::_,[],_,h,_=>by simp[DG] at h
 |r::rs,q::qs,xs,h,hx=>by
   simp only[DG,ae] at h;simp only[L5] at hx;split at hx
   case h_2=>cases hx
   rename_i x ys h1 h2;simp at hx;subst hx;obtain⟨vs,e1,e2⟩:=XF he hh h.2 h2
   have one:∃v,(match r with
    |.tmp t=>pure (ts.getD t undef)
    |.cell a t=>do loadVar t (<- asAddr (ts.getD a undef)):Sem Value).run P w=.ok v w/\bF (Rd X φ w) φ x v:=by
    have hr:=h.1;unfold chkR at hr;split at hr
    ·rename_i t i;simp at hr;subst hr;simp[XG] at h1;subst h1;exact⟨_,rfl,he _⟩
    ·rename_i a t i ag;simp only[ae,decide_eq_true_eq] at hr;obtain⟨rfl,Bf⟩:=hr;have r:=he a;simp only[XG] at h1;split at h1
     ·rename_i b off hg;split at h1
      case h_2=>cases h1
      rename_i cs dG;rw[hg] at r;obtain⟨g,sz,arr,e,h3,_,_,_,_,_,_,h4⟩:=LH.Qb hh dG r;obtain⟨u,h5,h6⟩:=Kz Bf h1 h4;exact⟨u,by simp[h3,asAddr,h5],h6⟩
     ·rename_i cs hg;rw[hg] at r;obtain⟨ad,h3,h4⟩:=LH.TE r;obtain⟨u,h5,h6⟩:=Kz Bf h1 h4;exact⟨u,by simp[h3,asAddr,h5],h6⟩
     ·cases h1
    ·cases hr
   obtain⟨v,e3,e4⟩:=one;refine⟨v::vs,?_,by simp[e2.1],fun i c u hc hu=>?_⟩
   ·simp only[List.mapM_cons,Sem.run_bind,Sem.run_pure];rw[e3];simp only[Result.andThen_ok];rw[e1];simp only[Result.andThen_ok]
   ·cases i with
    |zero=>simp at hc hu; subst hc; subst hu; exact e4
    |succ i=>simp at hc hu; exact e2.2 i c u hc hu
theorem CM {X:Nat->Prop} {φ:cZ} {w:World} {s:St} {ts:Array Value} {fn:Func} {qs:List Rv} {xs:List AV} (he:o9 X φ w s.env ts) (hh:bV X φ w s.H) (hc:DG P fn.results.toList qs=true) (hx:L5 s.H s.env qs=some xs) :
  ∃ v,(results fn ts).run P w=.ok v w/\bF (Rd X φ w) φ (ob xs) v:=by
 obtain⟨vs,h1,h2⟩:=XF (P:=P) he hh hc hx
 have h3:(fn.results.mapM (m:=Sem) fun
   |.tmp t=>pure (ts.getD t undef)
   |.cell a t=>do loadVar t (<- asAddr (ts.getD a undef))).run P w=.ok vs.toArray w:=by
  rw[<-yD (xs:=fn.results),List.mapM_toArray];simp only[Sem.run_map];rw[h1];simp only[Result.andThen_ok]
 have h4:(results fn ts).run P w=(Result.ok vs.toArray w).andThen (fun (a:Array Value) w'=>(pure (if h:a.size=1 then a[0] else .tuple a):Sem Value).run P w'):=by
  unfold results;simp only[Sem.run_bind];exact congrArg (fun z=>Result.andThen z _) h3
 rw[h4];simp only[Result.andThen_ok,Sem.run_pure];refine⟨_,rfl,?_⟩;obtain⟨hl,hr⟩:=h2
 match xs,vs,hl,hr with
 |[],[],_,_=>exact .dF _ _ _ rfl fun i c v hc=>by simp at hc
 |[x],[v],_,hr=>exact hr 0 x v rfl rfl
 |x::y::xs,v::u::vs,hl,hr=>
   have e:¬((v::u::vs).toArray.size=1):=by simp
   rw[dif_neg e];exact .dF _ _ _ (by simpa using hl) fun i c z hc hz=>hr i c z hc (by simpa using hz)

end
end Go.Am
