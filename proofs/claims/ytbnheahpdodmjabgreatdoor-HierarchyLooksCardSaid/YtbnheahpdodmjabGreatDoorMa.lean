/- An abstract machine, and its soundness against the model. -/
import Derived.WalkKit
import Derived.Laws.StructEq
import Derived.Laws.MakeOwn
import Derived.Laws.Concat
import Derived.MapKept
import Derived.WideKeyRuns
import Derived.Scope
set_option linter.unusedVariables false
/- The abstract machine: values by value, a small heap of own blocks, and an interpreter with fuel for the compact code. -/
open Array renaming getD_eq_getD_getElem? → bm, getElem?_append_left → vA, getElem?_eq_getElem → mS, getElem?_eq_some_iff → eG, getElem?_map → uS, getElem?_push → Ci, getElem?_toList → fo, length_toList → tu, map → Il, mem_toList_iff → WH, range → BN, toArray_toList → BM, toList_inj → iw
open Bool renaming and_eq_true → ae, false_eq_true → bH, not_eq_true' → bN, true_eq → GQ
open ForInStep renaming yield → Y4
open List renaming all_eq_true → pY, append_assoc → dS, eq_nil_of_length_eq_zero → eL, ext_getElem? → dW, getElem?_append_left → aA, getElem?_append_right → aL, getElem?_cons_succ → p9, getElem?_cons_zero → SL, getElem?_drop → bk, getElem?_map → cu, getElem?_of_mem → bG, getElem?_set → aU, getElem?_set_ne → cT, getElem?_take → bT, getElem?_take_of_lt → aZ, getElem?_toArray → AR, length_append → bO, length_cons → cH, length_drop → eV, length_take → bD, map_cons → eQ, mem_cons → aO, mem_cons_of_mem → cK, mem_of_getElem? → bp, size_toArray → vM
open Nat renaming add_mul → cO, add_zero → Cf, le_refl → aJ, le_trans → NF, lt_of_lt_of_le → fh, mul_le_mul_right → bV, sub_zero → Wz
open Option renaming getD_some → eJ, isSome_iff_exists → bf, map_none → IC, map_some → cG
open Option.some renaming injEq → af
open PUnit renaming unit → NC
open Prod.mk renaming injEq → aF
namespace Go.Am

inductive Rt where
 |s (i:Nat)|sc (i j:Nat)|c (b j:Nat)
 deriving DecidableEq,Inhabited
inductive AV where
 |any|undef|fY|gh|dC
 |int (k:IntKind) (n:Int)
 |bool (b:Bool)
 |str (s:ByteArray)
 |agg (cs:List AV)
 |dR (vs:List AV)
 |list (k:Nat) (xs:List AV)
 |dG (cs:List AV)
 |ptr (b off:Nat)
 |sl (k b off len:Nat)
 |func (fn:Fn) (first caps:List AV)
 |own (k:Nat) (xs:List AV)
 |dX (k:Nat) (p:Rt) (off len:Nat)
 |fG (k:Nat) (p:Rt) (i off:Nat)
 deriving Inhabited

abbrev Wy:=Option (List AV)
abbrev Heap:=List Wy
abbrev Env:=List (Nat × AV)

def ks:Nat:=4294967296

def get:Env->Nat->AV
 |[],_=>.any
 |(j,u)::r,i=>if i=j then u else get r i
def put:Env->Nat->AV->Env
 |[],i,v=>[(i,v)]
 |(j,u)::r,i,v=>if i<j then (i,v)::(j,u)::r else if i=j then (i,v)::r else (j,u)::put r i v
def mem:Nat->List Nat->Bool
 |_,[]=>false
 |i,j::r=>if i=j then true else mem i r
def uy (keep:List Nat):Env->Env
 |[]=>[]
 |(j,u)::r=>if mem j keep then (j,u)::uy keep r else uy keep r
def wi (env:Env) (d:Option Nat) (v:AV):Env:=
 match d with
 |some d=>put env d v
 |none=>env
def dP:Nat->List AV->Env
 |_,[]=>[]
 |i,a::r=>(i,a)::dP (i+1) r

def AV.cells:AV->List AV
 |.agg cs=>cs
 |x=>[x]
def AV.leaf:AV->Bool
 |.any|.undef|.agg _|.dR _=>false
 |_=>true
def bF:List AV->Bool
 |[]=>true
 |x::r=>x.leaf&&bF r

mutual
def AV.plain:AV->Bool
 |.ptr _ _|.sl _ _ _ _=>false
 |.agg cs=>uf cs
 |.dR cs=>uf cs
 |.func _ a b=>uf a&&uf b
 |_=>true
def uf:List AV->Bool
 |[]=>true
 |x::r=>x.plain&&uf r
end
mutual
def AV.flat:AV->Bool
 |.ptr _ _|.sl _ _ _ _|.list _ _|.dG _=>false
 |.agg cs=>Ie cs
 |.dR cs=>Ie cs
 |.func _ a b=>Ie a&&Ie b
 |_=>true
def Ie:List AV->Bool
 |[]=>true
 |x::r=>x.flat&&Ie r
end
mutual
def AV.wZ (n:Nat):AV->Bool
 |.ptr b _=>decide (b<n)
 |.sl _ b _ _=>decide (b<n)
 |.agg cs=>qE n cs
 |.dR cs=>qE n cs
 |.func _ a b=>qE n a&&qE n b
 |_=>true
def qE (n:Nat):List AV->Bool
 |[]=>true
 |x::r=>x.wZ n&&qE n r
end
def DB (n:Nat):Heap->Bool
 |[]=>true
 |none::r=>DB n r
 |some cs::r=>qE n cs&&DB n r

def aH (H:Heap) (b:Nat):Option (List AV):=
 match H[b]? with
 |some (some cs)=>some cs
 |_=>none
def el:List AV->AV
 |[.agg cs]=>.agg [.agg cs]
 |[x]=>x
 |cs=>.agg cs
def Iw (k:Nat):Nat->List AV->List AV
 |0,_=>[]
 |n+1,cs=>el (cs.take k)::Iw k n (cs.drop k)
def Gc (f:AV->Option (AV × List Nat)):List AV->Option (List AV × List Nat)
 |[]=>some ([],[])
 |x::r=>match f x,Gc f r with
   |some (y,b),some (ys,bs)=>some (y::ys,b++bs)
   |_,_=>none
def kB:Fn->Bool
 |.yield _=>true
 |_=>false
def GA (H:Heap):Nat->AV->Option (AV × List Nat)
 |0,_=>none
 |n+1,x=>match x with
   |.ptr b off=>match aH H b with
     |some cs=>match Gc (GA H n) (cs.drop off) with
       |some (ys,bs)=>some (.dG ys,b::bs)
       |none=>none
     |none=>none
   |.sl k b off len=>match aH H b with
     |some cs=>if off+len*k<=cs.length then
       match Gc (GA H n) ((cs.drop off).take (len*k)) with
       |some (ys,bs)=>some (.list k (Iw k len ys),b::bs)
       |none=>none
       else none
     |none=>none
   |.agg cs=>match Gc (GA H n) cs with
     |some (ys,bs)=>some (.agg ys,bs)
     |none=>none
   |.dR cs=>match Gc (GA H n) cs with
     |some (ys,bs)=>some (.dR ys,bs)
     |none=>none
   |.func f a c=>match kB f,Gc (GA H n) a,Gc (GA H n) c with
     |false,some (ys,bs),some (zs,cs)=>some (.func f ys zs,bs++cs)
     |_,_,_=>none
   |x=>some (x,[])
def acE (n:Nat):List Nat->Bool
 |[]=>true
 |b::r=>decide (n<=b)&&acE n r
def kill:Heap->List Nat->Heap
 |H,[]=>H
 |H,b::r=>kill (H.set b none) r
def YU:Nat:=8

inductive E where
 |t (i:Nat)|k (x:AV)|g (i:Nat)
 deriving Inhabited

inductive Et where
 |bool|str (ints:List Bool)|Xs|Lx|nfn
 deriving Inhabited

inductive Kt where
 |kint (k:IntKind)|Du|kst (ints:List Bool)
 deriving Inhabited
inductive Kd where
 |mv (x:E)|pick (c a b:E)
 |new (zs:List AV)|box (x:E)
 |build (zs:List AV) (parts:List (Nat × Nat × E))
 |dw (k n:Nat) (zs:List AV) (parts:List (Nat × Nat × E))
 |ld (ag:Option Nat) (x:E)|st (k:Nat) (a v:E)
 |pD (x:E)
 |bin (op:BinOp) (x y:E)|eq (neg:Bool) (t:Et) (x y:E)|un (op:UnOp) (x:E)|SH (k:IntKind) (x:E)
 |Sy (fn:Fn) (first caps:List E)
 |Rr (k:Nat) (zs:List AV) (len cap:E)
 |Io (k:Nat) (x:E) (lo hi:Option E)
 |vL (off:Nat) (x:E)|Of (n:Nat) (x:E) (hi:Option E)|fld (off:Nat) (ag:Option Nat) (x:E)
 |ti (k:Nat) (x i:E)|wC (n k:Nat) (x i:E)|ix (n k:Nat) (ag:Option Nat) (x i:E)
 |ext (i:Nat) (x:E)
 |call (f:Nat) (args:List E)|jM (x:E) (args:List E)
 |ixs (tab:List Nat) (i:E)|Rg (k:Nat) (zs:List AV) (x:E)
 |len (x:E)|app (k:Nat) (x y:E)|min (xs:List E)|max (xs:List E)|copy (k:Nat) (x y:E)
 |Ga|BP (kt:Kt) (ok:Bool) (z:AV) (x k:E)|Df (kt:Kt) (x k v:E)
 |bad
 deriving Inhabited

structure O where
 dst:Option Nat
 guard:Option (Nat × Bool)
 kd:Kd
 deriving Inhabited

def E.slot:E->List Nat
 |.t i=>[i]
 |_=>[]
def qa:List E->List Nat
 |[]=>[]
 |x::r=>x.slot++qa r
def tQ:List (Nat × Nat × E)->List Nat
 |[]=>[]
 |p::r=>p.2.2.slot++tQ r
def Oy:Option E->List Nat
 |some x=>x.slot
 |none=>[]
def Kd.reads:Kd->List Nat
 |.mv x|.box x|.ld _ x|.pD x|.un _ x|.SH _ x|.vL _ x|.fld _ _ x|.ext _ x|.len x=>x.slot
 |.pick c a b=>c.slot++(a.slot++b.slot)
 |.new _=>[]
 |.bad=>[]
 |.Ga=>[]
 |.BP _ _ _ x k=>x.slot++k.slot
 |.Df _ x k v=>x.slot++(k.slot++v.slot)
 |.ixs _ i=>i.slot
 |.Rg _ _ x=>x.slot
 |.build _ ps|.dw _ _ _ ps=>tQ ps
 |.st _ x y|.bin _ x y|.eq _ _ x y|.Rr _ _ x y|.ti _ x y|.wC _ _ x y|.ix _ _ _ x y|.app _ x y|.copy _ x y=>x.slot++y.slot
 |.Sy _ a b=>qa a++qa b
 |.Io _ x lo hi=>x.slot++(Oy lo++Oy hi)
 |.Of _ x hi=>x.slot++Oy hi
 |.call _ xs|.min xs|.max xs=>qa xs
 |.jM x xs=>x.slot++qa xs
def Kd.pure:Kd->Bool
 |.mv _|.pick _ _ _|.build _ _|.pD _|.bin _ _ _|.eq _ _ _ _|.un _ _|.SH _ _|.Sy _ _ _|.Io _ _ _ _|.vL _ _|.fld _ _ _|.ti _ _ _|.wC _ _ _ _|.ix _ _ _ _ _|.ext _ _|.ixs _ _|.len _|.min _|.max _=>true
 |_=>false
def O.reads (o:O):List Nat:=(match o.guard with
 |some (g,_)=>[g]
 |none=>[])++o.kd.reads

inductive Fp where
 |no|rd (b:Nat)|ra|wr (n:Nat) (bs:List Nat)
 deriving Inhabited
def Fp.ok:Fp->Fp->Bool
 |.no,_=>true
 |_,.no=>true
 |.rd _,.rd _=>true
 |.rd _,.ra=>true
 |.ra,.rd _=>true
 |.ra,.ra=>true
 |.rd b,.wr n bs=>decide (b<n)&&!mem b bs
 |.wr n bs,.rd b=>decide (b<n)&&!mem b bs
 |_,_=>false

inductive C where
 |skip|ret|exit (id:Nat)
 |qT (os:List O) (dr:Bool) (un:List (Nat × Nat)) (keep:List Nat)
 |seq (a b:C)|cond (c:E) (a b:C)|aH (id:Nat) (b:C)|loop (b:C)
 deriving Inhabited

inductive Md where|P|T|K
 deriving Inhabited
inductive Rv where|t (i:Nat)|c (i:Nat) (ag:Option Nat)
 deriving Inhabited
structure fM where
 n:Nat
 np:Nat
 res:List Rv
 body:C
 deriving Inhabited
structure eS where
 fn:Nat->Option (Md × fM)
 gl:Nat->List AV
 orc:Nat->Option (List AV->Heap->Option (AV × Heap))

inductive Ex where|normal|exit (id:Nat)|ret
 deriving Inhabited
structure St where
 env:Env
 H:Heap
 deriving Inhabited

def ev (c:eS) (env:Env):E->AV
 |.t i=>get env i
 |.k x=>x
 |.g i=>.dG (c.gl i)
def I3 (c:eS) (env:Env):List E->List AV
 |[]=>[]
 |x::r=>ev c env x::I3 c env r

def FO (ag:Option Nat) (cs:List AV):Option AV:=
 match ag with
 |some k=>if k<=cs.length then some (.agg (cs.take k)) else none
 |none=>cs.head?
def kj (cs:List AV) (off:Nat) (vs:List AV):List AV:=cs.take off++vs++cs.drop (off+vs.length)
def idx (x:AV) (len:Nat):Option Nat:=
 match x with
 |.int _ i=>if 0<=i/\i<(len:Int) then some i.toNat else none
 |_=>none
def bnd (x:AV) (hi:Nat):Option Nat:=
 match x with
 |.int _ i=>if 0<=i/\i<=(hi:Int) then some i.toNat else none
 |_=>none
def Fy (c:eS) (env:Env) (dflt hi:Nat):Option E->Option Nat
 |none=>some dflt
 |some x=>bnd (ev c env x) hi
def rD (c:eS) (env:Env):List AV->List (Nat × Nat × E)->Option (List AV)
 |zs,[]=>some zs
 |zs,(off,sz,x)::r=>
   if (ev c env x).cells.length=sz/\off+sz<=zs.length/\bF (ev c env x).cells=true then rD c env (kj zs off (ev c env x).cells) r else none

def arith (op:BinOp) (k:IntKind) (x y:Int):Option AV:=
 match op with
 |.add=>some (.int k (k.wrap (x+y)))
 |.sub=>some (.int k (k.wrap (x-y)))
 |.mul=>some (.int k (k.wrap (x*y)))
 |.quo=>if y=0 then none else some (.int k (k.wrap (x.tdiv y)))
 |.rem=>if y=0 then none else some (.int k (x.tmod y))
 |.and=>some (.int k (bits .and k x y))
 |.or=>some (.int k (bits .or k x y))
 |.xor=>some (.int k (bits .xor k x y))
 |.andNot=>some (.int k (bits .andNot k x y))
 |.eql=>some (.bool (x == y))
 |.neq=>some (.bool (x != y))
 |.lss=>some (.bool (decide (x<y)))
 |.leq=>some (.bool (decide (x<=y)))
 |.gtr=>some (.bool (decide (y<x)))
 |.geq=>some (.bool (decide (y<=x)))
 |_=>none
def Bz:List Bool->List AV->List AV->Option Bool
 |[],[],[]=>some true
 |true::l,.int k a::r,.int k' b::s=>if k=k' then match Bz l r s with
   |some e=>some (a == b&&e)
   |none=>none
   else none
 |false::l,.bool a::r,.bool b::s=>match Bz l r s with
   |some e=>some (a == b&&e)
   |none=>none
 |_,_,_=>none
def qp (b:Nat):AV:=.func (.yield 0) [] [.ptr b 0]
def mapOf:AV->Option Nat
 |.func (.yield 0) [] [.ptr b 0]=>some b
 |_=>none
def mgv (ok:Bool) (z:AV) (r:Option (Nat × AV)):AV:=
 match r with
 |some (_,v)=>if ok then .dR [v,.bool true] else v
 |none=>if ok then .dR [z,.bool false] else z
def Dh (k v:AV) (es:List AV) (r:Option (Nat × AV)):List AV:=
 match r with
 |some (i,_)=>es.set i (.dR [k,v])
 |none=>es++[.dR [k,v]]
def Bi:Kt->AV->AV->Option Bool
 |.kint k,.int k1 a,.int k2 b=>if k1=k/\k2=k then some (a == b) else none
 |.Du,.str a,.str b=>some (a == b)
 |.kst l,.agg xs,.agg ys=>Bz l xs ys
 |_,_,_=>none
def iY (t:Kt) (k:AV):List AV->Nat->Option (Option (Nat × AV))
 |[],_=>some none
 |.dR [k',v]::r,i=>match Bi t k k' with
   |some true=>some (some (i,v))
   |some false=>iY t k r (i+1)
   |none=>none
 |_::_,_=>none
def isNil:Et->AV->Option Bool
 |.Xs,.dC=>some true
 |.Xs,.sl _ _ _ _=>some false
 |.Xs,.list _ (_::_)=>some false
 |.Lx,.fY=>some true
 |.Lx,.ptr _ _=>some false
 |.Lx,.dG _=>some false
 |.nfn,.gh=>some true
 |.nfn,.func f _ _=>if kB f then none else some false
 |_,_=>none
def eqA:Et->AV->AV->Option Bool
 |.bool,.bool a,.bool b=>some (a == b)
 |.str l,.agg xs,.agg ys=>Bz l xs ys
 |.Xs,x,.dC=>isNil .Xs x
 |.Lx,x,.fY=>isNil .Lx x
 |.nfn,x,.gh=>isNil .nfn x
 |_,_,_=>none
def tq (op:BinOp) (x y:AV):Option AV:=
 match x,y with
 |.int k a,.int k' b=>match op with
   |.shl=>if b<0 then none else some (.int k (k.wrap (a*2 ^ (min b.toNat k.bits))))
   |.shr=>if b<0 then none else some (.int k (a.fdiv (2 ^ (min b.toNat k.bits))))
   |op=>if k=k' then arith op k a b else none
 |.str a,.str b=>match op with
   |.add=>if a.size+b.size<=1000000000 then some (.str (a++b)) else none
   |_=>none
 |_,_=>none
def WM (op:UnOp) (x:AV):Option AV:=
 match op,x with
 |.neg,.int k n=>some (.int k (k.wrap (0-n)))
 |.xor,.int k n=>some (.int k (bits .xor k (if k.signed then -1 else k.max) n))
 |.not,.bool b=>some (.bool (!b))
 |_,_=>none
def aC:List AV->List AV
 |[]=>[]
 |x::r=>x.cells++aC r
def jQ (H:Heap) (k:Nat):AV->Option (List AV × Nat)
 |.dC=>some ([],0)
 |.list k' xs=>if k'=k then some (aC xs,xs.length) else none
 |.sl k' b off len=>match aH H b with
   |some cs=>if k'=k/\off+len*k<=cs.length then some ((cs.drop off).take (len*k),len) else none
   |none=>none
 |_=>none
def lenA:AV->Option Nat
 |.dC=>some 0
 |.list _ xs=>some xs.length
 |.sl _ _ _ len=>some len
 |_=>none
def Dk (mx:Bool):AV->List AV->Option AV
 |x,[]=>some x
 |.int k a,.int _ b::r=>Dk mx (.int k (if mx then (if b > a then b else a) else (if b<a then b else a))) r
 |_,_=>none
def BO (mx:Bool):List AV->Option AV
 |.int k a::r=>Dk mx (.int k a) r
 |_=>none
def rep (zs:List AV):Nat->List AV
 |0=>[]
 |n+1=>zs++rep zs n

def Az (c:eS) (call:Nat->List AV->Heap->Option (AV × Heap)) (f:Nat) (args:List AV) (H:Heap):Option (AV × Heap × Fp):=
 match c.fn f with
 |none=>none
 |some (.K,_)=>match call f args H with
   |some (r,H')=>some (r,H',.wr 0 [])
   |none=>none
 |some (.T,_)=>match call f args H with
   |some (r,H')=>match GA H' YU r with
     |some (r',bs)=>if H.length<=H'.length/\acE H.length bs=true/\DB H.length (H'.take H.length)=true then some (r',H'.take H.length,.wr 0 []) else none
     |none=>none
   |none=>none
 |some (.P,_)=>if uf args then
   match call f args [] with
   |some (r,H')=>match GA H' YU r with
     |some (r',_)=>some (r',H,.no)
     |none=>none
   |none=>none
   else match Gc (GA H YU) args with
    |some (vu,bs)=>match call f vu [] with
      |some (r,H')=>match GA H' YU r with
        |some (r',_)=>if r'.flat then some (r',H,.ra) else some (r',kill H bs,.wr 0 [])
        |none=>none
      |none=>none
    |none=>none

def ga (c:eS) (call:Nat->List AV->Heap->Option (AV × Heap)) (env:Env) (H:Heap):Kd->Option (AV × Heap × Fp)
 |.mv x=>some (ev c env x,H,.no)
 |.pick t a b=>match ev c env t with
   |.bool t=>some (if t then ev c env a else ev c env b,H,.no)
   |_=>none
 |.new zs=>some (.ptr H.length 0,H++[some zs],.wr H.length [])
 |.box x=>if bF (ev c env x).cells then some (.ptr H.length 0,H++[some (ev c env x).cells],.wr H.length []) else none
 |.build zs ps=>match rD c env zs ps with
   |some cs=>some (.agg cs,H,.no)
   |none=>none
 |.dw k n zs ps=>match rD c env (rep zs n) ps with
   |some cs=>if bF cs then some (.sl k H.length 0 n,H++[some cs],.wr H.length []) else none
   |none=>none
 |.ld ag x=>match ev c env x with
   |.dG cs=>match FO ag cs with
     |some v=>some (v,H,.no)
     |none=>none
   |.ptr b off=>match aH H b with
     |some cs=>match FO ag (cs.drop off) with
       |some v=>some (v,H,.rd b)
       |none=>none
     |none=>none
   |_=>none
 |.st k a v=>match ev c env a with
   |.ptr b off=>match aH H b with
     |some cs=>if (ev c env v).cells.length=k/\off+k<=cs.length/\bF (ev c env v).cells=true then
       some (.undef,H.set b (some (kj cs off (ev c env v).cells)),.wr H.length [b]) else none
     |none=>none
   |_=>none
 |.pD x=>match ev c env x with
   |.ptr b off=>some (.ptr b off,H,.no)
   |.dG cs=>some (.dG cs,H,.no)
   |.func (.func f) a b=>some (.func (.func f) a b,H,.no)
   |_=>none
 |.bin op x y=>match tq op (ev c env x) (ev c env y) with
   |some v=>some (v,H,.no)
   |none=>none
 |.eq ng t x y=>match eqA t (ev c env x) (ev c env y) with
   |some e=>some (.bool (if ng then !e else e),H,.no)
   |none=>none
 |.un op x=>match WM op (ev c env x) with
   |some v=>some (v,H,.no)
   |none=>none
 |.SH k x=>match ev c env x with
   |.int _ n=>some (.int k (k.wrap n),H,.no)
   |_=>none
 |.Sy fn a b=>if kB fn then none else some (.func fn (I3 c env a) (I3 c env b),H,.no)
 |.Ga=>some (qp H.length,H++[some []],.wr H.length [])
 |.BP kt ok z x k=>match mapOf (ev c env x) with
   |some b=>match aH H b with
     |some es=>if Bi kt (ev c env k) (ev c env k)=some true then
       match iY kt (ev c env k) es 0 with
       |some r=>some (mgv ok z r,H,.rd b)
       |none=>none
       else none
     |none=>none
   |none=>none
 |.Df kt x k v=>match mapOf (ev c env x) with
   |some b=>match aH H b with
     |some es=>if Bi kt (ev c env k) (ev c env k)=some true then
       match iY kt (ev c env k) es 0 with
       |some r=>some (.undef,H.set b (some (Dh (ev c env k) (ev c env v) es r)),.wr H.length [b])
       |none=>none
       else none
     |none=>none
   |none=>none
 |.Rr k zs l cp=>match ev c env l,ev c env cp with
   |.int _ l,.int _ cp=>if 0<=l/\l<=cp/\cp<=(ks:Int) then some (.sl k H.length 0 l.toNat,H++[some (rep zs l.toNat)],.wr H.length []) else none
   |_,_=>none
 |.Io k x lo hi=>match lenA (ev c env x) with
   |some n=>match Fy c env n n hi with
     |some h=>match Fy c env 0 h lo with
       |some l=>match ev c env x with
         |.dC=>some (.dC,H,.no)
         |.list k' xs=>if k'=k then some (.list k ((xs.take h).drop l),H,.no) else none
         |.sl k' b off _=>if k'=k then some (.sl k b (off+l*k) (h-l),H,.no) else none
         |_=>none
       |none=>none
     |none=>none
   |none=>none
 |.vL off x=>match ev c env x with
   |.ptr b o=>some (.ptr b (o+off),H,.no)
   |.dG cs=>some (.dG (cs.drop off),H,.no)
   |_=>none
 |.Of n x hi=>match Fy c env n n hi with
   |some m=>match ev c env x with
     |.dG cs=>if n<=cs.length/\m=n/\bF (cs.take n)=true then some (.list 1 (cs.take n),H,.no) else none
     |.ptr b off=>match aH H b with
       |some cs=>if off+n<=cs.length then some (.sl 1 b off m,H,.rd b) else none
       |none=>none
     |_=>none
   |none=>none
 |.fld off ag x=>match ev c env x with
   |.agg cs=>match FO ag (cs.drop off) with
     |some v=>some (v,H,.no)
     |none=>none
   |_=>none
 |.ti k x i=>match ev c env x with
   |.list k' xs=>match idx (ev c env i) xs.length with
     |some j=>if k'=k then match xs[j]? with
       |some v=>some (.dG v.cells,H,.no)
       |none=>none
       else none
     |none=>none
   |.sl k' b off len=>match idx (ev c env i) len with
     |some j=>if k'=k then some (.ptr b (off+j*k),H,.no) else none
     |none=>none
   |_=>none
 |.wC n k x i=>match idx (ev c env i) n with
   |some j=>match ev c env x with
     |.ptr b off=>some (.ptr b (off+j*k),H,.no)
     |.dG cs=>some (.dG (cs.drop (j*k)),H,.no)
     |_=>none
   |none=>none
 |.ix n k ag x i=>match idx (ev c env i) n with
   |some j=>match ev c env x with
     |.agg cs=>match FO ag (cs.drop (j*k)) with
       |some v=>some (v,H,.no)
       |none=>none
     |_=>none
   |none=>none
 |.ixs tab i=>match idx (ev c env i) tab.length with
   |some j=>match tab[j]? with
     |some v=>some (.int .u8 v,H,.no)
     |none=>none
   |none=>none
 |.Rg k zs x=>match ev c env x with
   |.dC=>some (.undef,H,.wr H.length [])
   |.list _ []=>some (.undef,H,.wr H.length [])
   |.sl k' b off len=>if len=0 then some (.undef,H,.wr H.length []) else match aH H b with
     |some cs=>if k'=k/\off+len*k<=cs.length then some (.undef,H.set b (some (kj cs off (rep zs len))),.wr H.length [b]) else none
     |none=>none
   |_=>none
 |.ext i x=>match ev c env x with
   |.dR vs=>match vs[i]? with
     |some v=>some (v,H,.no)
     |none=>none
   |_=>none
 |.call f args=>Az c call f (I3 c env args) H
 |.jM x args=>match ev c env x with
   |.func (.func f) a b=>Az c call f (a++I3 c env args++b) H
   |_=>none
 |.len x=>match lenA (ev c env x) with
   |some n=>some (.int .i64 n,H,.no)
   |none=>none
 |.app k x y=>match jQ H k (ev c env y) with
   |some (news,m)=>match ev c env x with
     |.dC=>if m=0 then some (.dC,H,.wr H.length []) else if m<=ks/\bF news=true then some (.sl k H.length 0 m,H++[some news],.wr H.length []) else none
     |.sl k' b 0 n=>match aH H b with
       |some cs=>if k'=k/\n*k<=cs.length/\n+m<=ks/\bF news=true then some (.sl k H.length 0 (n+m),H.set b none++[some (cs.take (n*k)++news)],.wr H.length [b]) else none
       |none=>none
     |_=>none
   |none=>none
 |.min xs=>match BO false (I3 c env xs) with
   |some v=>some (v,H,.no)
   |none=>none
 |.max xs=>match BO true (I3 c env xs) with
   |some v=>some (v,H,.no)
   |none=>none
 |.copy k x y=>match jQ H k (ev c env y) with
   |some (news,m)=>match ev c env x with
     |.dC=>some (.int .i64 0,H,.wr H.length [])
     |.sl k' b off n=>match aH H b with
       |some cs=>if k'=k/\off+n*k<=cs.length/\bF news=true then some (.int .i64 (min m n:Nat),H.set b (some (kj cs off (news.take (min m n*k)))),.wr H.length [b]) else none
       |none=>none
     |_=>none
   |none=>none
 |.bad=>none

def resA (H:Heap) (env:Env):Rv->Option AV
 |.t i=>some (get env i)
 |.c i ag=>match get env i with
   |.ptr b off=>match aH H b with
     |some cs=>FO ag (cs.drop off)
     |none=>none
   |.dG cs=>FO ag cs
   |_=>none
def Td (H:Heap) (env:Env):List Rv->Option (List AV)
 |[]=>some []
 |r::rs=>match resA H env r,Td H env rs with
   |some v,some vs=>some (v::vs)
   |_,_=>none
def qQ:List AV->AV
 |[x]=>x
 |vs=>.dR vs

end Go.Am

/- How abstract values stand for values of the model in a world. -/
namespace Go.Am

abbrev dx:=List (Option (Nat × Nat))
def bU (φ:dx) (g:Nat):Prop:=∃b sz:Nat,φ[b]?=some (some (g,sz))
def Rd (X:Nat->Prop) (φ:dx) (w:World) (a:Addr) (u:Value):Prop:=¬X a.block/\¬ bU φ a.block/\w.cell? a=some u

inductive bR (R:Addr->Value->Prop):dx->AV->Value->Prop
 |any (φ:dx) (v:Value):bR R φ .any v
 |undef (φ:dx):bR R φ .undef (.tuple #[])
 |fY (φ:dx):bR R φ .fY (.pointer none)
 |gh (φ:dx):bR R φ .gh .nilFunc
 |dC (φ:dx):bR R φ .dC (.slice none 0 0)
 |int (φ:dx) (k:IntKind) (n:Int):bR R φ (.int k n) (.int k n)
 |bool (φ:dx) (b:Bool):bR R φ (.bool b) (.bool b)
 |str (φ:dx) (s:ByteArray):bR R φ (.str s) (.string s)
 |agg (φ:dx) (cs:List AV) (vs:Array Value) (hl:cs.length=vs.size) (h:∀(i:Nat) (c:AV) (v:Value),cs[i]?=some c->vs[i]?=some v->bR R φ c v):bR R φ (.agg cs) (.agg vs)
 |dR (φ:dx) (cs:List AV) (vs:Array Value) (hl:cs.length=vs.size) (h:∀(i:Nat) (c:AV) (v:Value),cs[i]?=some c->vs[i]?=some v->bR R φ c v):bR R φ (.dR cs) (.tuple vs)
 |func (φ:dx) (f:Fn) (as:List AV) (va:Array Value) (bs:List AV) (vb:Array Value) (hy:kB f=false) (Dz:as.length=va.size) (Dy:bs.length=vb.size)
   (ha:∀(i:Nat) (c:AV) (v:Value),as[i]?=some c->va[i]?=some v->bR R φ c v) (hb:∀(i:Nat) (c:AV) (v:Value),bs[i]?=some c->vb[i]?=some v->bR R φ c v):bR R φ (.func f as bs) (.func f va vb)
 |yG (φ:dx) (k:Nat) (xs:List AV) (a:Addr) (n cap:Nat) (u:Nat->Nat->Value) (hn:n=xs.length) (iN:n<=cap) (hk:∀x∈xs,x.cells.length=k)
   (hu:∀(i j:Nat) (x c:AV),xs[i]?=some x->x.cells[j]?=some c->R (a.add (i*k+j)) (u i j))
   (h:∀(i j:Nat) (x c:AV),xs[i]?=some x->x.cells[j]?=some c->bR R [] c (u i j)):bR R φ (.list k xs) (.slice (some a) n cap)
 |lJ (φ:dx) (k:Nat):bR R φ (.list k []) (.slice none 0 0)
 |dG (φ:dx) (cs:List AV) (a:Addr) (u:Nat->Value) (hu:∀(j:Nat) (c:AV),cs[j]?=some c->R (a.add j) (u j))
   (h:∀(j:Nat) (c:AV),cs[j]?=some c->bR R [] c (u j)):bR R φ (.dG cs) (.pointer (some a))
 |ptr (φ:dx) (b off:Nat) (a:Addr) (hb:b<φ.length) (h:∀g sz:Nat,φ[b]?=some (some (g,sz))->a=⟨g,off,none⟩/\0<sz):bR R φ (.ptr b off) (.pointer (some a))
 |sl (φ:dx) (k b off len:Nat) (a:Addr) (cap:Nat) (hb:b<φ.length) (hc:len<=cap)
   (h:∀g sz:Nat,φ[b]?=some (some (g,sz))->(0<cap->a=⟨g,off,none⟩)/\off+cap*k<sz):bR R φ (.sl k b off len) (.slice (some a) len cap)
 |Dg (φ:dx) (b r:Nat) (hb:b<φ.length) (h:∀g sz:Nat,φ[b]?=some (some (g,sz))->r=g/\sz=0):bR R φ (.func (.yield 0) [] [.ptr b 0]) (.map (some r))

theorem bR.As {R:Addr->Value->Prop} {φ:dx} {f:Fn} {as bs:List AV} {v:Value} (h:bR R φ (.func f as bs) v) :
  (kB f=false/\∃ va vb,v=.func f va vb/\as.length=va.size/\bs.length=vb.size/\(∀(i:Nat) (c:AV) (v:Value),as[i]?=some c->va[i]?=some v->bR R φ c v)/\∀ (i:Nat) (c:AV) (v:Value),bs[i]?=some c->vb[i]?=some v->bR R φ c v) \/
  ∃ b r,f=.yield 0/\as=[]/\bs=[.ptr b 0]/\v=.map (some r)/\b<φ.length/\∀ g sz:Nat,φ[b]?=some (some (g,sz))->r=g/\sz=0:=by
 generalize hx:AV.func f as bs=x at h;cases h<;>cases hx
 case func hy Dz ha Dy hb=>exact .inl ⟨hy,_,_,rfl,Dz,Dy,ha,hb⟩
 case Dg hb h=>exact .inr ⟨_,_,rfl,rfl,rfl,rfl,hb,h⟩
theorem bt {α:Type} {l:List α} {i:Nat} (h:i<l.length):∃x,l[i]?=some x:=⟨l[i],List.getElem?_eq_getElem h⟩
theorem cc {α:Type} {l:Array α} {i:Nat} (h:i<l.size):∃x,l[i]?=some x:=⟨l[i],mS h⟩
theorem az {α:Type} {l:List α} {i:Nat} {x:α} (h:l[i]?=some x):i<l.length:=(List.getElem?_eq_some_iff.1 h).1
theorem nK {α:Type} {l:Array α} {i:Nat} {x:α} (h:l[i]?=some x):i<l.size:=(eG.1 h).1

structure AN (φ φ':dx):Prop where
 len:φ.length<=φ'.length
 NP:∀(b:Nat) (p:Nat × Nat),b<φ.length->φ'[b]?=some (some p)->φ[b]?=some (some p)
theorem AN.refl (φ:dx):AN φ φ:=⟨aJ _,fun _ _ _ h=>h⟩
theorem AN.trans {a b c:dx} (h:AN a b) (k:AN b c):AN a c:=
 ⟨NF h.len k.len,fun i p hi hp=>h.NP i p hi (k.NP i p (fh hi h.len) hp)⟩

theorem bR.mono {R R':Addr->Value->Prop} (hR:∀a u,R a u->R' a u) {φ:dx} {x:AV} {v:Value} (h:bR R φ x v):∀{φ':dx},AN φ φ'->bR R' φ' x v:=by
 induction h with
 |any=>intro φ' _; exact .any _ _
 |undef=>intro φ' _; exact .undef _
 |fY=>intro φ' _; exact .fY _
 |gh=>intro φ' _; exact .gh _
 |dC=>intro φ' _; exact .dC _
 |int=>intro φ' _; exact .int _ _ _
 |bool=>intro φ' _; exact .bool _ _
 |str=>intro φ' _; exact .str _ _
 |agg φ cs vs hl h ih=>intro φ' hp; exact .agg _ _ _ hl fun i c v h1 h2=>ih i c v h1 h2 hp
 |dR φ cs vs hl h ih=>intro φ' hp; exact .dR _ _ _ hl fun i c v h1 h2=>ih i c v h1 h2 hp
 |Dg φ b r hb h=>intro φ' hp; exact .Dg _ _ _ (fh hb hp.len) fun g sz hg=>h g sz (hp.NP _ _ hb hg)
 |func φ f as va bs vb hy Dz Dy ha hb iha ihb=>intro φ' hp; exact .func _ _ _ _ _ _ hy Dz Dy (fun i c v h1 h2=>iha i c v h1 h2 hp) (fun i c v h1 h2=>ihb i c v h1 h2 hp)
 |yG φ k xs a n cap u hn iN hk hu h ih=>intro φ' _; exact .yG _ _ _ _ _ _ u hn iN hk (fun i j x c h1 h2=>hR _ _ (hu i j x c h1 h2)) (fun i j x c h1 h2=>ih i j x c h1 h2 (.refl _))
 |lJ=>intro φ' _; exact .lJ _ _
 |dG φ cs a u hu h ih=>intro φ' _; exact .dG _ _ _ u (fun j c h1=>hR _ _ (hu j c h1)) (fun j c h1=>ih j c h1 (.refl _))
 |ptr φ b off a hb h=>intro φ' hp; exact .ptr _ _ _ _ (fh hb hp.len) fun g sz hg=>h g sz (hp.NP _ _ hb hg)
 |sl φ k b off len a cap hb hc h=>intro φ' hp; exact .sl _ _ _ _ _ _ _ (fh hb hp.len) hc fun g sz hg=>h g sz (hp.NP _ _ hb hg)

theorem ue {cs:List AV} (h:uf cs=true):∀(i:Nat) (c:AV),cs[i]?=some c->c.plain=true:=by
 induction cs with
 |nil=>intro i c hc; simp at hc
 |cons x r ih=>
   simp only[uf,ae] at h;intro i c hc;cases i with
   |zero=>simp at hc; subst hc; exact h.1
   |succ i=>simp at hc; exact ih h.2 i c hc
theorem Bw {cs:List AV} (h:Ie cs=true):∀(i:Nat) (c:AV),cs[i]?=some c->c.flat=true:=by
 induction cs with
 |nil=>intro i c hc; simp at hc
 |cons x r ih=>
   simp only[Ie,ae] at h;intro i c hc;cases i with
   |zero=>simp at hc; subst hc; exact h.1
   |succ i=>simp at hc; exact ih h.2 i c hc
theorem qU {n:Nat} {cs:List AV} (h:qE n cs=true):∀(i:Nat) (c:AV),cs[i]?=some c->c.wZ n=true:=by
 induction cs with
 |nil=>intro i c hc; simp at hc
 |cons x r ih=>
   simp only[qE,ae] at h;intro i c hc;cases i with
   |zero=>simp at hc; subst hc; exact h.1
   |succ i=>simp at hc; exact ih h.2 i c hc
theorem AK {cs:List AV} (h:bF cs=true):∀(i:Nat) (c:AV),cs[i]?=some c->c.leaf=true:=by
 induction cs with
 |nil=>intro i c hc; simp at hc
 |cons x r ih=>
   simp only[bF,ae] at h;intro i c hc;cases i with
   |zero=>simp at hc; subst hc; exact h.1
   |succ i=>simp at hc; exact ih h.2 i c hc

theorem bR.dL {R:Addr->Value->Prop} {φ:dx} {x:AV} {v:Value} (h:bR R φ x v):x.plain=true->∀ψ,bR R ψ x v:=by
 induction h with
 |any=>intro _ ψ; exact .any _ _
 |undef=>intro _ ψ; exact .undef _
 |fY=>intro _ ψ; exact .fY _
 |gh=>intro _ ψ; exact .gh _
 |dC=>intro _ ψ; exact .dC _
 |int=>intro _ ψ; exact .int _ _ _
 |bool=>intro _ ψ; exact .bool _ _
 |str=>intro _ ψ; exact .str _ _
 |agg φ cs vs hl h ih=>intro hp ψ; simp only[AV.plain] at hp; exact .agg _ _ _ hl fun i c v h1 h2=>ih i c v h1 h2 (ue hp i c h1) ψ
 |dR φ cs vs hl h ih=>intro hp ψ; simp only[AV.plain] at hp; exact .dR _ _ _ hl fun i c v h1 h2=>ih i c v h1 h2 (ue hp i c h1) ψ
 |func φ f as va bs vb hy Dz Dy ha hb iha ihb=>
   intro hp ψ;simp only[AV.plain,ae] at hp;exact .func _ _ _ _ _ _ hy Dz Dy (fun i c v h1 h2=>iha i c v h1 h2 (ue hp.1 i c h1) ψ) (fun i c v h1 h2=>ihb i c v h1 h2 (ue hp.2 i c h1) ψ)
 |yG φ k xs a n cap u hn iN hk hu h ih=>intro _ ψ; exact .yG _ _ _ _ _ _ u hn iN hk hu h
 |lJ=>intro _ ψ; exact .lJ _ _
 |dG φ cs a u hu h ih=>intro _ ψ; exact .dG _ _ _ u hu h
 |ptr=>intro hp; simp[AV.plain] at hp
 |sl=>intro hp; simp[AV.plain] at hp
 |Dg=>intro hp; simp[AV.plain,uf] at hp
theorem bR.of_flat {R:Addr->Value->Prop} {φ:dx} {x:AV} {v:Value} (h:bR R φ x v):x.flat=true->∀(R':Addr->Value->Prop) ψ,bR R' ψ x v:=by
 induction h with
 |any=>intro _ _ ψ; exact .any _ _
 |undef=>intro _ _ ψ; exact .undef _
 |fY=>intro _ _ ψ; exact .fY _
 |gh=>intro _ _ ψ; exact .gh _
 |dC=>intro _ _ ψ; exact .dC _
 |int=>intro _ _ ψ; exact .int _ _ _
 |bool=>intro _ _ ψ; exact .bool _ _
 |str=>intro _ _ ψ; exact .str _ _
 |agg φ cs vs hl h ih=>intro hp R' ψ; simp only[AV.flat] at hp; exact .agg _ _ _ hl fun i c v h1 h2=>ih i c v h1 h2 (Bw hp i c h1) R' ψ
 |dR φ cs vs hl h ih=>intro hp R' ψ; simp only[AV.flat] at hp; exact .dR _ _ _ hl fun i c v h1 h2=>ih i c v h1 h2 (Bw hp i c h1) R' ψ
 |func φ f as va bs vb hy Dz Dy ha hb iha ihb=>
   intro hp R' ψ;simp only[AV.flat,ae] at hp;exact .func _ _ _ _ _ _ hy Dz Dy (fun i c v h1 h2=>iha i c v h1 h2 (Bw hp.1 i c h1) R' ψ) (fun i c v h1 h2=>ihb i c v h1 h2 (Bw hp.2 i c h1) R' ψ)
 |yG=>intro hp; simp[AV.flat] at hp
 |lJ=>intro hp; simp[AV.flat] at hp
 |dG=>intro hp; simp[AV.flat] at hp
 |ptr=>intro hp; simp[AV.flat] at hp
 |sl=>intro hp; simp[AV.flat] at hp
 |Dg=>intro hp; simp[AV.flat,Ie] at hp
theorem bR.take {R:Addr->Value->Prop} {φ:dx} {x:AV} {v:Value} {n:Nat} (h:bR R φ x v):x.wZ n=true->bR R (φ.take n) x v:=by
 induction h with
 |any=>intro _; exact .any _ _
 |undef=>intro _; exact .undef _
 |fY=>intro _; exact .fY _
 |gh=>intro _; exact .gh _
 |dC=>intro _; exact .dC _
 |int=>intro _; exact .int _ _ _
 |bool=>intro _; exact .bool _ _
 |str=>intro _; exact .str _ _
 |agg φ cs vs hl h ih=>intro hp; simp only[AV.wZ] at hp; exact .agg _ _ _ hl fun i c v h1 h2=>ih i c v h1 h2 (qU hp i c h1)
 |dR φ cs vs hl h ih=>intro hp; simp only[AV.wZ] at hp; exact .dR _ _ _ hl fun i c v h1 h2=>ih i c v h1 h2 (qU hp i c h1)
 |func φ f as va bs vb hy Dz Dy ha hb iha ihb=>
   intro hp;simp only[AV.wZ,ae] at hp;exact .func _ _ _ _ _ _ hy Dz Dy (fun i c v h1 h2=>iha i c v h1 h2 (qU hp.1 i c h1)) (fun i c v h1 h2=>ihb i c v h1 h2 (qU hp.2 i c h1))
 |yG φ k xs a n cap u hn iN hk hu h ih=>intro _; exact .yG _ _ _ _ _ _ u hn iN hk hu h
 |lJ=>intro _; exact .lJ _ _
 |dG φ cs a u hu h ih=>intro _; exact .dG _ _ _ u hu h
 |ptr φ b off a hb h=>
   intro hp;have Vl:b<n:=by simpa[AV.wZ] using hp
   refine .ptr _ _ _ _ (by rw[bD]; omega) fun g sz hg=>h g sz ?_;rw[aZ Vl] at hg;exact hg
 |sl φ k b off len a cap hb hc h=>
   intro hp;have Vl:b<n:=by simpa[AV.wZ] using hp
   refine .sl _ _ _ _ _ _ _ (by rw[bD]; omega) hc fun g sz hg=>h g sz ?_;rw[aZ Vl] at hg;exact hg
 |Dg φ b r hb h=>
   intro hp;have Vl:b<n:=by simpa[AV.wZ,qE] using hp
   refine .Dg _ _ _ (by rw[bD]; omega) fun g sz hg=>h g sz ?_;rw[aZ Vl] at hg;exact hg
theorem bR.vd {R:Addr->Value->Prop} {φ:dx} {x:AV} {v:Value} (h:bR R φ x v) (hl:x.leaf=true):v.oneCell'=true:=by
 cases h<;>first|rfl|simp[AV.leaf] at hl

theorem bR.cells {R:Addr->Value->Prop} {φ:dx} {x:AV} {v:Value} (h:bR R φ x v) (hs:bF x.cells=true) :
  x.cells.length=v.cells.size/\∀ (i:Nat) (c:AV),x.cells[i]?=some c->∃u,v.cells[i]?=some u/\bR R φ c u/\u.oneCell'=true:=by
 have one:∀{x:AV} {v:Value},x.cells=[x]->v.cells=#[v]->bR R φ x v->bF x.cells=true ->
   x.cells.length=v.cells.size/\∀ (i:Nat) (c:AV),x.cells[i]?=some c->∃u,v.cells[i]?=some u/\bR R φ c u/\u.oneCell'=true:=by
  intro x v hx hv h hs;rw[hx,hv];refine⟨rfl,fun i c hc=>?_⟩;cases i with
  |zero=>
    simp at hc; subst hc;refine⟨v,by simp,h,h.vd ?_⟩;rw[hx] at hs; simpa[bF] using hs
  |succ i=>simp at hc
 cases h with
 |any=>simp[AV.cells,bF,AV.leaf] at hs
 |agg φ cs vs hl h=>
   refine⟨hl,fun i c hc=>?_⟩;have hi:i<vs.size:=hl▸az hc;obtain⟨u,hu⟩:=cc hi;exact⟨u,hu,h i c u hc hu,(h i c u hc hu).vd (AK hs i c hc)⟩
 |_=>exact one rfl rfl (by first|exact .undef _|exact .fY _|exact .gh _|exact .dC _|exact .int _ _ _|exact .bool _ _|exact .str _ _|exact .lJ _ _|(constructor<;>assumption)) hs

def Vw (o:Obj) (sz:Nat) (arr:Array Value):Prop:=
 (∃e,o=.cells arr e (0,0)/\arr.size+1=sz)\/(∃es Ww,o=.map es Ww/\sz=0/\arr=es.map fun e=>.tuple #[e.key,e.val])
theorem Vw.cells {o:Obj} {sz:Nat} {arr:Array Value} (h:Vw o sz arr) (h0:0<sz):∃e,o=.cells arr e (0,0)/\arr.size+1=sz:=by
 rcases h with h|⟨_,_,_,h,_⟩
 ·exact h
 ·omega
theorem Vw.leaf {o:Obj} {sz:Nat} {arr:Array Value} (h:Vw o sz arr) {i:Nat} {u:Value} (hu:arr[i]?=some u) {R:Addr->Value->Prop} {φ:dx} {x:AV} (r:bR R φ x u) (hx:x.leaf=true):∃e,o=.cells arr e (0,0)/\arr.size+1=sz:=by
 rcases h with h|⟨es,_,_,_,rfl⟩
 ·exact h
 ·rw[uS] at hu;cases he:es[i]? with
  |none=>rw[he] at hu; cases hu
  |some e=>
    rw[he] at hu;simp only[cG,af] at hu;subst hu;cases r<;>simp[AV.leaf] at hx
structure cm (X:Nat->Prop) (φ:dx) (w:World) (H:Heap):Prop where
 len:φ.length=H.length
 GR:∀g,X g->g<w.heap.size
 live:∀(b:Nat) (cs:List AV),H[b]?=some (some cs)->∃(g sz:Nat) (arr:Array Value) (o:Obj),φ[b]?=some (some (g,sz))/\w.heap[g]?=some o/\Vw o sz arr/\(cs.length<=arr.size/\(sz=0->cs.length=arr.size))/\¬ X g /\
  ∀ (i:Nat) (c:AV),cs[i]?=some c->∃u,arr[i]?=some u/\bR (Rd X φ w) φ c u
 dead:∀b:Nat,H[b]?=some none->φ[b]?=some none
 inj:∀b b' g sz pX:Nat,φ[b]?=some (some (g,sz))->φ[b']?=some (some (g,pX))->b=b'

structure ft (φ:dx) (w:World) (φ':dx) (w':World):Prop where
 os:w'.os=w.os
 tape:w'.tape=w.tape
 output:w'.output=w.output
 drawn:w.drawn<=w'.drawn
 size:w.heap.size<=w'.heap.size
 keep:∀g,g<w.heap.size->¬bU φ g->w'.heap[g]?=w.heap[g]?/\¬ bU φ' g
 cL:AN φ φ'
theorem ft.refl (φ:dx) (w:World):ft φ w φ w:=⟨rfl,rfl,rfl,aJ _,aJ _,fun _ _ h=>⟨rfl,h⟩,.refl _⟩
theorem ft.trans {φ φ' rN:dx} {w w' w'':World} (h:ft φ w φ' w') (k:ft φ' w' rN w''):ft φ w rN w'':=
 ⟨k.os.trans h.os,k.tape.trans h.tape,k.output.trans h.output,NF h.drawn k.drawn,NF h.size k.size,
  fun g hg ho=>⟨(k.keep g (fh hg h.size) (h.keep g hg ho).2).1.trans (h.keep g hg ho).1,(k.keep g (fh hg h.size) (h.keep g hg ho).2).2⟩,h.cL.trans k.cL⟩
theorem ft.rd {X:Nat->Prop} {φ φ':dx} {w w':World} (h:ft φ w φ' w'):∀a u,Rd X φ w a u->Rd X φ' w' a u:=by
 intro a u ⟨h1,h2,h3⟩;have bE:=World.block_lt_of_cell? w a h3;exact⟨h1,(h.keep _ bE h2).2,(World.cell?_of_block (h.keep _ bE h2).1).trans h3⟩
theorem ft.rep {X:Nat->Prop} {φ φ':dx} {w w':World} (h:ft φ w φ' w') {x:AV} {v:Value} (r:bR (Rd X φ w) φ x v):bR (Rd X φ' w') φ' x v:=r.mono h.rd h.cL
theorem ft.drew (φ:dx) (w:World):ft φ w φ w.drew:=⟨rfl,rfl,rfl,Nat.le_succ _,aJ _,fun _ _ h=>⟨rfl,h⟩,.refl _⟩

def rH (X:Nat->Prop) (φ:dx) (w:World) (env:Env) (tmps:Array Value):Prop:=∀i,bR (Rd X φ w) φ (get env i) (tmps.getD i undef)
theorem bQ (env:Env) (d:Nat) (v:AV) (i:Nat):get (put env d v) i=if i=d then v else get env i:=by
 induction env with
 |nil=>by_cases h:i=d<;>simp[put,get,h]
 |cons p r ih=>
   obtain⟨j,u⟩:=p;unfold put;split
   ·by_cases h:i=d<;>simp[get,h]
   ·split
    ·rename_i h1 h2;subst h2;by_cases h:i=d<;>simp[get,h]
    ·rename_i h1 h2;simp only[get,ih];by_cases h:i=j
     ·subst h; simp[Ne.symm h2]
     ·simp[h]
theorem rH.put {X:Nat->Prop} {φ:dx} {w:World} {env:Env} {tmps:Array Value} (h:rH X φ w env tmps) {d:Nat} (hd:d<tmps.size) {x:AV} {v:Value} (r:bR (Rd X φ w) φ x v) :
  rH X φ w (put env d x) (tmps.setIfInBounds d v):=by
 intro i;rw[bQ];by_cases hi:i=d
 ·subst hi;simp[hd,r]
 ·have:=h i;simpa[hi,Array.getElem?_setIfInBounds_ne (Ne.symm hi)] using this
theorem rH.oN {X:Nat->Prop} {φ φ':dx} {w w':World} {env:Env} {tmps:Array Value} (h:rH X φ w env tmps) (k:ft φ w φ' w'):rH X φ' w' env tmps:=fun i=>k.rep (h i)

theorem Addr.add_add (a:Addr) (n m:Nat):(a.add n).add m=a.add (n+m):=by
 unfold Addr.add;by_cases hn:n=0
 ·subst hn; simp
 ·by_cases hm:m=0
  ·subst hm; simp[hn]
  ·simp[hn,hm,Nat.add_assoc]
theorem Addr.jB (g o n:Nat):Addr.add ⟨g,o,none⟩ n=⟨g,o+n,none⟩:=Addr.add_lit g o n
end Go.Am

/- The heap relation under the steps of the machine; freezing. -/
namespace Go.Am

theorem uM {H:Heap} {b:Nat} {cs:List AV} (h:aH H b=some cs):H[b]?=some (some cs):=by
 unfold aH at h;split at h
 ·rename_i h'; rw[h']; simpa using h
 ·cases h
theorem cm.at {X:Nat->Prop} {φ:dx} {w:World} {H:Heap} (h:cm X φ w H) {b:Nat} {cs:List AV} (hb:aH H b=some cs) :
  ∃ (g sz:Nat) (arr:Array Value) (o:Obj),φ[b]?=some (some (g,sz))/\w.heap[g]?=some o/\Vw o sz arr/\(cs.length<=arr.size/\(sz=0->cs.length=arr.size))/\¬ X g /\
   ∀ (i:Nat) (c:AV),cs[i]?=some c->∃u,arr[i]?=some u/\bR (Rd X φ w) φ c u:=h.live b cs (uM hb)
theorem cm.cat {X:Nat->Prop} {φ:dx} {w:World} {H:Heap} (h:cm X φ w H) {b:Nat} {cs:List AV} (hb:aH H b=some cs) (hs:∀g sz:Nat,φ[b]?=some (some (g,sz))->0<sz) :
  ∃ (g sz:Nat) (arr:Array Value) (e:TypeId),φ[b]?=some (some (g,sz))/\w.heap[g]?=some (.cells arr e (0,0))/\arr.size+1=sz/\cs.length<=arr.size/\¬ X g /\
   ∀ (i:Nat) (c:AV),cs[i]?=some c->∃u,arr[i]?=some u/\bR (Rd X φ w) φ c u:=by
 obtain⟨g,sz,arr,o,h1,h2,h3,h4,h5,h6⟩:=h.at hb;obtain⟨e,rfl,h7⟩:=h3.cells (hs g sz h1);exact⟨g,sz,arr,e,h1,h2,h7,h4.1,h5,h6⟩

theorem bU.nil (g:Nat):¬bU [] g:=fun⟨b,sz,h⟩=>by simp at h
theorem tg {φ:dx} {p:Nat × Nat} {g:Nat} (h:bU (φ++[some p]) g):bU φ g\/g=p.1:=by
 obtain⟨b,sz,hb⟩:=h;by_cases bE:b<φ.length
 ·rw[aA bE] at hb;exact .inl ⟨b,sz,hb⟩
 ·rw[aL (by omega)] at hb
  have h0:b-φ.length=0:=by
   have:=az hb;simp at this; omega
  rw[h0] at hb;simp at hb;right; rw[hb]
theorem wk {φ:dx} {b g:Nat} (h:bU (φ.set b none) g):bU φ g:=by
 obtain⟨c,sz,hc⟩:=h;refine⟨c,sz,?_⟩;rw[aU] at hc;split at hc
 ·split at hc<;>simp at hc
 ·exact hc

theorem ft.of_same {φ:dx} {w w':World} {ψ:dx} (h:ft [] w ψ w'):ft φ w φ w':=
 ⟨h.os,h.tape,h.output,h.drawn,h.size,fun g hg ho=>⟨(h.keep g hg (bU.nil g)).1,ho⟩,.refl _⟩
theorem cm.of_same {X:Nat->Prop} {φ:dx} {w w':World} {H:Heap} {ψ:dx} (h:cm X φ w H) (a:ft [] w ψ w'):cm X φ w' H:=by
 have k:ft φ w φ w':=ft.of_same a;refine⟨h.len,fun g hg=>fh (h.GR g hg) a.size,fun b cs hb=>?_,h.dead,h.inj⟩;obtain⟨g,sz,arr,e,h1,h2,h3,h4,h5,h6⟩:=h.live b cs hb;refine⟨g,sz,arr,e,h1,?_,h3,h4,h5,fun i c hc=>?_⟩
 ·rw[(a.keep g (eG.1 h2).1 (bU.nil g)).1]; exact h2
 ·obtain⟨u,hu,r⟩:=h6 i c hc;exact⟨u,hu,k.rep r⟩

theorem cm.ahk {X:Nat->Prop} {φ:dx} {w w':World} {H:Heap} (h:cm X φ w H) {o:Obj} {td:Nat} {arr:Array Value} (hV:Vw o td arr) (hw:w'.heap=w.heap.push o)
  (ho:w'.os=w.os) (ht:w'.tape=w.tape) (hp:w'.output=w.output) {cs:List AV} (hl:cs.length<=arr.size/\(td=0->cs.length=arr.size))
  (hc:∀(i:Nat) (c:AV),cs[i]?=some c->∃u,arr[i]?=some u/\bR (Rd X φ w) φ c u) (hd:w.drawn<=w'.drawn) :
  cm X (φ++[some (w.heap.size,td)]) w' (H++[some cs])/\ft φ w (φ++[some (w.heap.size,td)]) w':=by
 have own:∀g,bU φ g->g<w.heap.size:=by
  intro g ⟨b,sz,hb⟩;have bE:b<H.length:=h.len▸az hb;obtain⟨x,hx⟩:=bt bE;cases x with
  |none=>rw[h.dead b hx] at hb; simp at hb
  |some cs=>
    obtain⟨g',pX,arr,e,h1,h2,_⟩:=h.live b cs hx;rw[h1] at hb;simp at hb;rw[<-hb.1];exact (eG.1 h2).1
 have a:ft φ w (φ++[some (w.heap.size,td)]) w':=by
  refine⟨ho,ht,hp,hd,by rw[hw]; simp,fun g hg hn=>⟨?_,?_⟩,⟨by simp,fun b p hb hp=>?_⟩⟩
  ·rw[hw,Ci,if_neg (by omega)]
  ·intro ho;rcases tg ho with h1|h1
   ·exact hn h1
   ·simp at h1; omega
  ·rwa [aA hb] at hp
 refine⟨⟨by simp[h.len],fun g hg=>?_,fun b ds hb=>?_,fun b hb=>?_,fun b b' g sz pX h1 h2=>?_⟩,a⟩
 ·rw[hw]; have:=h.GR g hg; simp; omega
 ·by_cases bE:b<H.length
  ·rw[aA bE] at hb;obtain⟨g,sz,ar,e',h1,h2,h3,h4,h5,h6⟩:=h.live b ds hb;refine⟨g,sz,ar,e',by rw[aA (by rw[h.len]; exact bE)]; exact h1,?_,h3,h4,h5,fun i c hc=>?_⟩
   ·rw[hw,Ci,if_neg (by have:=(eG.1 h2).1; omega)]; exact h2
   ·obtain⟨u,hu,r⟩:=h6 i c hc;exact⟨u,hu,a.rep r⟩
  ·have jJ:=az hb;simp at jJ;have Mo:b=H.length:=by omega
   subst Mo;simp at hb;subst hb;refine⟨w.heap.size,td,arr,o,by rw[<-h.len]; simp,by rw[hw]; simp,hV,hl,fun hx=>by have:=h.GR _ hx; omega,fun i c hi=>?_⟩;obtain⟨u,hu,r⟩:=hc i c hi;exact⟨u,hu,a.rep r⟩
 ·by_cases bE:b<H.length
  ·rw[aA bE] at hb;rw[aA (by rw[h.len]; exact bE)];exact h.dead b hb
  ·have jJ:=az hb;simp at jJ;have Mo:b=H.length:=by omega
   subst Mo;simp at hb
 ·have new:∀(b g sz:Nat),(φ++[some (w.heap.size,td)])[b]?=some (some (g,sz))->(b<φ.length/\φ[b]?=some (some (g,sz))/\g<w.heap.size)\/(b=φ.length/\g=w.heap.size):=by
   intro b g sz hb;by_cases bE:b<φ.length
   ·rw[aA bE] at hb;exact .inl ⟨bE,hb,own g ⟨b,sz,hb⟩⟩
   ·have jJ:=az hb;simp at jJ;have Mo:b=φ.length:=by omega
    subst Mo;simp at hb;exact .inr ⟨rfl,hb.1.symm⟩
  rcases new b g sz h1 with⟨l1,e1,g1⟩|⟨l1,g1⟩<;>rcases new b' g pX h2 with⟨l2,e2,g2⟩|⟨l2,g2⟩
  ·exact h.inj b b' g sz pX e1 e2
  ·omega
  ·omega
  ·omega

theorem cm.alloc {X:Nat->Prop} {φ:dx} {w w':World} {H:Heap} (h:cm X φ w H) {arr:Array Value} {e:TypeId} (hw:w'.heap=w.heap.push (.cells arr e (0,0)))
  (ho:w'.os=w.os) (ht:w'.tape=w.tape) (hp:w'.output=w.output) {cs:List AV} (hl:cs.length<=arr.size)
  (hc:∀(i:Nat) (c:AV),cs[i]?=some c->∃u,arr[i]?=some u/\bR (Rd X φ w) φ c u) (hd:w.drawn<=w'.drawn) :
  cm X (φ++[some (w.heap.size,arr.size+1)]) w' (H++[some cs])/\ft φ w (φ++[some (w.heap.size,arr.size+1)]) w':=
 h.ahk (.inl ⟨e,rfl,rfl⟩) hw ho ht hp ⟨hl,fun z=>by omega⟩ hc hd
theorem cm.ana {X:Nat->Prop} {φ:dx} {w w':World} {H:Heap} (h:cm X φ w H) (hw:w'.heap=w.heap.push (.map #[] 0))
  (ho:w'.os=w.os) (ht:w'.tape=w.tape) (hp:w'.output=w.output) (hd:w.drawn<=w'.drawn) :
  cm X (φ++[some (w.heap.size,0)]) w' (H++[some []])/\ft φ w (φ++[some (w.heap.size,0)]) w':=
 h.ahk (arr:=#[]) (.inr ⟨#[],0,rfl,rfl,by simp⟩) hw ho ht hp ⟨aJ _,fun _=>rfl⟩ (fun i c hi=>by simp at hi) hd

theorem cm.store {X:Nat->Prop} {φ:dx} {w w':World} {H:Heap} (h:cm X φ w H) {b g sz:Nat} {arr arr':Array Value} {e:TypeId} {cs':List AV}
  (jV:φ[b]?=some (some (g,sz))) (hg:w.heap[g]?=some (.cells arr e (0,0))) (pH:arr.size+1=sz) (hs:arr'.size=arr.size) (hw:w'=w.setRow g arr') (hX:¬X g)
  (hl:cs'.length<=arr'.size) (hc:∀(i:Nat) (c:AV),cs'[i]?=some c->∃u,arr'[i]?=some u/\bR (Rd X φ w) φ c u) :
  cm X φ w' (H.set b (some cs'))/\ft φ w φ w':=by
 subst hw;have a:ft φ w φ (w.setRow g arr'):=⟨rfl,rfl,rfl,aJ _,by simp,fun k _ ho=>⟨setRow_other w g k _ (fun e=>ho ⟨b,sz,e▸jV⟩),ho⟩,.refl _⟩;refine⟨⟨by simp[h.len],fun k hk=>by simpa using h.GR k hk,fun c ds hb=>?_,fun c hb=>?_,h.inj⟩,a⟩
 ·rw[aU] at hb;split at hb
  ·rename_i H7;subst H7;split at hb
   ·simp at hb;subst hb;refine⟨g,sz,arr',_,jV,setRow_heap w g arr arr' e _ hg,.inl ⟨e,rfl,by omega⟩,⟨by omega,fun z=>by omega⟩,hX,fun i c hi=>?_⟩;obtain⟨u,hu,r⟩:=hc i c hi;exact⟨u,hu,a.rep r⟩
   ·simp at hb
  ·rename_i H7;obtain⟨g',pX,ar,e',h1,h2,h3,h4,h5,h6⟩:=h.live c ds hb;refine⟨g',pX,ar,e',h1,?_,h3,h4,h5,fun i c hi=>?_⟩
   ·rw[setRow_other w g g' _ (fun eq=>H7 (h.inj b c g sz pX jV (eq▸h1)))]; exact h2
   ·obtain⟨u,hu,r⟩:=h6 i c hi;exact⟨u,hu,a.rep r⟩
 ·rw[aU] at hb;split at hb
  ·split at hb<;>simp at hb
  ·exact h.dead c hb

theorem cm.adO {X:Nat->Prop} {φ:dx} {w w':World} {H:Heap} (h:cm X φ w H) {b g:Nat} {es':Array MapEntry} {clk':Nat} {cs':List AV}
  (jV:φ[b]?=some (some (g,0))) (hw1:w'.heap[g]?=some (.map es' clk')) (hw2:∀k,k≠g->w'.heap[k]?=w.heap[k]?) (pH:w'.heap.size=w.heap.size)
  (ho:w'.os=w.os) (ht:w'.tape=w.tape) (hp:w'.output=w.output) (hd:w.drawn<=w'.drawn) (hX:¬X g)
  (hl:cs'.length=es'.size) (hc:∀(i:Nat) (c:AV),cs'[i]?=some c->∃u,(es'.map fun e=>Value.tuple #[e.key,e.val])[i]?=some u/\bR (Rd X φ w) φ c u) :
  cm X φ w' (H.set b (some cs'))/\ft φ w φ w':=by
 have a:ft φ w φ w':=⟨ho,ht,hp,hd,by omega,fun k _ hk=>⟨hw2 k (fun e=>hk ⟨b,0,e▸jV⟩),hk⟩,.refl _⟩;refine⟨⟨by simp[h.len],fun k hk=>by rw[pH]; exact h.GR k hk,fun c ds hb=>?_,fun c hb=>?_,h.inj⟩,a⟩
 ·rw[aU] at hb;split at hb
  ·rename_i H7;subst H7;split at hb
   ·simp at hb;subst hb;refine⟨g,0,_,_,jV,hw1,.inr ⟨es',clk',rfl,rfl,rfl⟩,⟨by simp[hl],fun z=>by simp[hl]⟩,hX,fun i c hi=>?_⟩;obtain⟨u,hu,r⟩:=hc i c hi;exact⟨u,hu,a.rep r⟩
   ·simp at hb
  ·rename_i H7;obtain⟨g',pX,ar,e',h1,h2,h3,h4,h5,h6⟩:=h.live c ds hb;refine⟨g',pX,ar,e',h1,?_,h3,h4,h5,fun i c hi=>?_⟩
   ·rw[hw2 g' (fun eq=>H7 (h.inj b c g 0 pX jV (eq▸h1)))]; exact h2
   ·obtain⟨u,hu,r⟩:=h6 i c hi;exact⟨u,hu,a.rep r⟩
 ·rw[aU] at hb;split at hb
  ·split at hb<;>simp at hb
  ·exact h.dead c hb

theorem cm.af7 {X:Nat->Prop} {φ:dx} {w:World} {H:Heap} (h:cm X φ w H) (b:Nat):cm X (φ.set b none) w (H.set b none)/\ft φ w (φ.set b none) w:=by
 have a:ft φ w (φ.set b none) w:=by
  refine⟨rfl,rfl,rfl,aJ _,aJ _,fun g _ ho=>⟨rfl,fun hx=>ho (wk hx)⟩,⟨by simp,fun c p hc hp=>?_⟩⟩;rw[aU] at hp;split at hp
  ·split at hp<;>simp at hp
  ·exact hp
 refine⟨⟨by simp[h.len],h.GR,fun c ds hb=>?_,fun c hb=>?_,fun c c' g sz pX h1 h2=>?_⟩,a⟩
 ·rw[aU] at hb;split at hb
  ·split at hb<;>simp at hb
  ·rename_i H7;obtain⟨g',pX,ar,e',h1,h2,h3,h4,h5,h6⟩:=h.live c ds hb;refine⟨g',pX,ar,e',?_,h2,h3,h4,h5,fun i c hi=>?_⟩
   ·rw[aU,if_neg H7]; exact h1
   ·obtain⟨u,hu,r⟩:=h6 i c hi;exact⟨u,hu,a.rep r⟩
 ·rw[aU] at hb ⊢;split at hb
  ·rename_i H7;rw[if_pos H7];split at hb
   ·rename_i bE;rw[if_pos (by rw[h.len]; exact bE)]
   ·simp at hb
  ·rename_i H7;rw[if_neg H7];exact h.dead c hb
 ·have un:∀(c g sz:Nat),(φ.set b none)[c]?=some (some (g,sz))->φ[c]?=some (some (g,sz)):=by
   intro c g sz hc;rw[aU] at hc;split at hc
   ·split at hc<;>simp at hc
   ·exact hc
  exact h.inj c c' g sz pX (un c g sz h1) (un c' g pX h2)
def UY:dx->List Nat->dx
 |φ,[]=>φ
 |φ,b::r=>UY (φ.set b none) r
theorem cm.kill {X:Nat->Prop} {w:World}:∀(bs:List Nat) {φ:dx} {H:Heap},cm X φ w H->cm X (UY φ bs) w (kill H bs)/\ft φ w (UY φ bs) w
 |[],φ,H,h=>⟨h,.refl _ _⟩
 |b::r,φ,H,h=>by
   obtain⟨h1,a1⟩:=h.af7 b;obtain⟨h2,a2⟩:=cm.kill r h1;exact⟨h2,a1.trans a2⟩
theorem PQ:∀(bs:List Nat) (φ:dx) (c:Nat) (p:Nat × Nat),(UY φ bs)[c]?=some (some p)->φ[c]?=some (some p)/\c∉bs
 |[],φ,c,p,h=>⟨h,by simp⟩
 |b::r,φ,c,p,h=>by
   obtain⟨h1,h2⟩:=PQ r (φ.set b none) c p h;rw[aU] at h1;split at h1
   ·split at h1<;>simp at h1
   ·rename_i H7;exact⟨h1,by simp[h2]; exact fun e=>H7 e.symm⟩

theorem cm.move {X:Nat->Prop} {φ:dx} {w w':World} {H:Heap} (h:cm X φ w H) {b g sz:Nat} {arr arr':Array Value} {e:TypeId} {cs':List AV}
  (jV:φ[b]?=some (some (g,sz))) (hg:w.heap[g]?=some (.cells arr e (0,0))) (pH:arr.size+1=sz) (hs:arr'.size=arr.size) (hw:w'=w.setRow g arr') (hX:¬X g)
  (hl:cs'.length<=arr'.size) (hc:∀(i:Nat) (c:AV),cs'[i]?=some c->∃u,arr'[i]?=some u/\bR (Rd X φ w) φ c u) :
  cm X (φ.set b none++[some (g,sz)]) w' (H.set b none++[some cs'])/\ft φ w (φ.set b none++[some (g,sz)]) w':=by
 subst hw;have QB:b<φ.length:=az jV
 have look:∀(c:Nat) (p:Nat × Nat),(φ.set b none++[some (g,sz)])[c]?=some (some p)->(c<φ.length/\c≠b/\φ[c]?=some (some p))\/(c=φ.length/\p=(g,sz)):=by
  intro c p hc;by_cases bE:c<φ.length
  ·rw[aA (by simpa using bE),aU] at hc;split at hc
   ·simp_all
   ·rename_i H7; exact .inl ⟨bE,fun e=>H7 e.symm,hc⟩
  ·have jJ:=az hc;simp at jJ;have Mo:c=φ.length:=by omega
   subst Mo;rw[aL (by simp)] at hc;simp at hc;exact .inr ⟨rfl,hc.symm⟩
 have a:ft φ w (φ.set b none++[some (g,sz)]) (w.setRow g arr'):=by
  refine⟨rfl,rfl,rfl,aJ _,by simp,fun k _ ho=>⟨setRow_other w g k _ (fun e=>ho ⟨b,sz,e▸jV⟩),?_⟩,⟨by simp,fun c p hc hp=>?_⟩⟩
  ·intro⟨c,s,hc⟩;rcases look c _ hc with⟨_,_,h1⟩|⟨_,h1⟩
   ·exact ho ⟨c,s,h1⟩
   ·simp at h1; exact ho ⟨b,sz,h1.1▸jV⟩
  ·rcases look c p hp with⟨_,_,h1⟩|⟨h1,_⟩
   ·exact h1
   ·omega
 refine⟨⟨by simp[h.len],fun k hk=>by simpa using h.GR k hk,fun c ds hb=>?_,fun c hb=>?_,fun c c' k s s' h1 h2=>?_⟩,a⟩
 ·by_cases bE:c<H.length
  ·rw[aA (by simpa using bE),aU] at hb;split at hb
   ·split at hb<;>simp at hb
   ·rename_i H7;obtain⟨g',pX,ar,e',h1,h2,h3,h4,h5,h6⟩:=h.live c ds hb;refine⟨g',pX,ar,e',?_,?_,h3,h4,h5,fun i c hi=>?_⟩
    ·rw[aA (by simp[h.len,bE]),aU,if_neg H7]; exact h1
    ·rw[setRow_other w g g' _ (fun eq=>H7 (h.inj b c g sz pX jV (eq▸h1)))]; exact h2
    ·obtain⟨u,hu,r⟩:=h6 i c hi;exact⟨u,hu,a.rep r⟩
  ·have jJ:=az hb;simp at jJ;have Mo:c=H.length:=by omega
   subst Mo;rw[aL (by simp)] at hb;simp at hb;subst hb;refine⟨g,sz,arr',_,?_,setRow_heap w g arr arr' e _ hg,.inl ⟨e,rfl,by omega⟩,⟨by omega,fun z=>by omega⟩,hX,fun i c hi=>?_⟩
   ·rw[aL (by simp[h.len])]; simp[h.len]
   ·obtain⟨u,hu,r⟩:=hc i c hi;exact⟨u,hu,a.rep r⟩
 ·by_cases bE:c<H.length
  ·rw[aA (by simpa using bE),aU] at hb;rw[aA (by simp[h.len,bE]),aU];split at hb
   ·rename_i H7;rw[if_pos H7,if_pos (by omega)]
   ·rename_i H7;rw[if_neg H7]; exact h.dead c hb
  ·have jJ:=az hb;simp at jJ;have Mo:c=H.length:=by omega
   subst Mo;rw[aL (by simp)] at hb;simp at hb
 ·rcases look c _ h1 with⟨l1,n1,e1⟩|⟨l1,e1⟩<;>rcases look c' _ h2 with⟨l2,n2,e2⟩|⟨l2,e2⟩
  ·exact h.inj c c' k s s' e1 e2
  ·simp at e2; exact absurd (h.inj c b k s sz e1 (e2.1▸jV)) n1
  ·simp at e1; exact absurd (h.inj c' b k s' sz e2 (e1.1▸jV)) n2
  ·omega

theorem DA {n:Nat}:∀{H:Heap},DB n H=true->∀(b:Nat) (cs:List AV),H[b]?=some (some cs)->qE n cs=true
 |[],_,b,cs,hb=>by simp at hb
 |none::r,h,b,cs,hb=>by
   cases b with
   |zero=>simp at hb
   |succ b=>simp at hb; exact DA (H:=r) (by simpa[DB] using h) b cs hb
 |some ds::r,h,b,cs,hb=>by
   simp only[DB,ae] at h;cases b with
   |zero=>simp at hb; subst hb; exact h.1
   |succ b=>simp at hb; exact DA (H:=r) h.2 b cs hb
theorem Lk {φ:dx} {n g:Nat} (h:bU (φ.take n) g):bU φ g:=by
 obtain⟨b,sz,hb⟩:=h;rw[bT] at hb;split at hb
 ·exact⟨b,sz,hb⟩
 ·simp at hb
theorem Zo {X:Nat->Prop} {φ:dx} {w:World} {n:Nat}:∀a u,Rd X φ w a u->Rd X (φ.take n) w a u:=fun _ _ ⟨h1,h2,h3⟩=>⟨h1,fun h=>h2 (Lk h),h3⟩
theorem cm.take {X:Nat->Prop} {φ:dx} {w:World} {H:Heap} (h:cm X φ w H) {n:Nat} (hn:n<=H.length) (dy:DB n (H.take n)=true):cm X (φ.take n) w (H.take n):=by
 refine⟨by simp[h.len],h.GR,fun b cs hb=>?_,fun b hb=>?_,fun b b' g sz pX h1 h2=>?_⟩
 ·have hr:=DA dy b cs hb;have bE:b<n:=by have:=az hb; simp at this; omega
  rw[aZ bE] at hb;obtain⟨g,sz,ar,e,h1,h2,h3,h4,h5,h6⟩:=h.live b cs hb;refine⟨g,sz,ar,e,by rw[aZ bE]; exact h1,h2,h3,h4,h5,fun i c hi=>?_⟩;obtain⟨u,hu,r⟩:=h6 i c hi;exact⟨u,hu,(r.take (qU hr i c hi)).mono Zo (.refl _)⟩
 ·have bE:b<n:=by have:=az hb; simp at this; omega
  rw[aZ bE] at hb ⊢;exact h.dead b hb
 ·rw[bT] at h1 h2;split at h1<;>split at h2<;>first|exact h.inj b b' g sz pX h1 h2|(first|simp at h1|simp at h2)
theorem ft.take {φ φ':dx} {w w':World} (h:ft φ w φ' w'):ft φ w (φ'.take φ.length) w':=
 ⟨h.os,h.tape,h.output,h.drawn,h.size,fun g hg ho=>⟨(h.keep g hg ho).1,fun hx=>(h.keep g hg ho).2 (Lk hx)⟩,
  ⟨by rw[bD]; have:=h.cL.len; omega,fun b p hb hp=>h.cL.NP b p hb (by rwa [aZ hb] at hp)⟩⟩

/-! Freezing -/
theorem wA {f:AV->Option (AV × List Nat)}:∀{xs ys:List AV} {bs:List Nat},Gc f xs=some (ys,bs) ->
  ys.length=xs.length/\∀ (i:Nat) (x:AV),xs[i]?=some x->∃y b,f x=some (y,b)/\ys[i]?=some y/\∀ c∈b,c∈bs
 |[],ys,bs,h=>by simp[Gc] at h; obtain⟨rfl,rfl⟩:=h; exact⟨rfl,fun i x hx=>by simp at hx⟩
 |x::r,ys,bs,h=>by
   simp only[Gc] at h;split at h
   ·rename_i y b DQ bs' h1 h2;simp at h;obtain⟨rfl,rfl⟩:=h;obtain⟨hl,hm⟩:=wA h2;refine⟨by simp[hl],fun i z hz=>?_⟩;cases i with
    |zero=>simp at hz; subst hz; exact⟨y,b,h1,by simp,fun c hc=>by simp[hc]⟩
    |succ i=>
      simp at hz;obtain⟨y',b',e1,e2,e3⟩:=hm i z hz;exact⟨y',b',e1,by simpa using e2,fun c hc=>by simp[e3 c hc]⟩
   ·cases h
theorem wH (l:List AV):(el l).cells=l:=by
 unfold el;split<;>first|rfl|skip
 rename_i x hx;cases x<;>first|rfl|(exact absurd rfl (hx _))
theorem Mr (k:Nat):∀(n:Nat) (ys:List AV),n*k<=ys.length->(Iw k n ys).length=n/\∀ (i:Nat) (x:AV),(Iw k n ys)[i]?=some x->x.cells=(ys.drop (i*k)).take k/\i<n
 |0,ys,_=>⟨rfl,fun i x hx=>by simp[Iw] at hx⟩
 |n+1,ys,h=>by
   have h':n*k<=(ys.drop k).length:=by rw[eV]; rw[cO] at h; omega
   obtain⟨hl,hm⟩:=Mr k n (ys.drop k) h';refine⟨by simp[Iw,hl],fun i x hx=>?_⟩;cases i with
   |zero=>simp[Iw] at hx; subst hx; rw[wH]; simp
   |succ i=>
     simp[Iw] at hx;obtain⟨e1,e2⟩:=hm i x hx;refine⟨?_,by omega⟩;rw[e1,List.drop_drop];congr 2;rw[cO]; omega
theorem gE {w:World} {g:Nat} {arr:Array Value} {e:TypeId} {fr:Nat × Nat} (h:w.heap[g]?=some (.cells arr e fr)) (o:Nat):w.cell? ⟨g,o,none⟩=arr[o]?:=cell_of_row w g o arr e fr h

theorem I2 {X:Nat->Prop} {φ:dx} {w:World} {H:Heap} (h:cm X φ w H) {R:Addr->Value->Prop} (hR:∀a u,Rd X φ w a u->R a u) :
  ∀ (n:Nat) (x y:AV) (v:Value) (bs:List Nat),GA H n x=some (y,bs) ->
   (∀b∈bs,∀g sz:Nat,φ[b]?=some (some (g,sz))->∀o u,w.cell? ⟨g,o,none⟩=some u->R ⟨g,o,none⟩ u)->bR (Rd X φ w) φ x v->bR R [] y v
 |0,_,_,_,_,hf,_,_=>by simp[GA] at hf
 |n+1,x,y,v,bs,hf,hb,r=>by
   have ih:=I2 h hR n
   have many:∀{cs ys:List AV} {bs':List Nat} {vs:Array Value},Gc (GA H n) cs=some (ys,bs')->(∀b∈bs',b∈bs)->cs.length=vs.size ->
     (∀(i:Nat) (c:AV) (v:Value),cs[i]?=some c->vs[i]?=some v->bR (Rd X φ w) φ c v) ->
     ys.length=vs.size/\∀ (i:Nat) (c:AV) (v:Value),ys[i]?=some c->vs[i]?=some v->bR R [] c v:=by
    intro cs ys bs' vs hm xx hl hr;obtain⟨NY,X1⟩:=wA hm;refine⟨by omega,fun i c v hc hv=>?_⟩;obtain⟨x,hx⟩:=bt (l:=cs) (i:=i) (by have:=az hc; omega);obtain⟨y,b,e1,e2,e3⟩:=X1 i x hx;rw[e2] at hc;simp at hc;subst hc;exact ih x _ v b e1 (fun b' jJ=>hb b' (xx _ (e3 b' jJ))) (hr i x v hx hv)
   cases x with
   |ptr b off=>
     simp only[GA] at hf;split at hf
     ·rename_i cs dQ;split at hf
      ·rename_i ys bs' hm;simp at hf;obtain⟨rfl,rfl⟩:=hf;obtain⟨NY,X1⟩:=wA hm;cases r with
       |ptr _ _ _ a QB ha=>
         obtain⟨g,sz,arr,e,h1,h2,h3,h4,h5,h6⟩:=h.cat dQ fun g sz hg=>(ha g sz hg).2;obtain⟨rfl,_⟩:=ha g sz h1;refine .dG _ _ _ (fun j=>arr[off+j]?.getD undef) (fun j c hc=>?_) (fun j c hc=>?_)
         ·obtain⟨x,hx⟩:=bt (l:=cs.drop off) (i:=j) (by have:=az hc; omega);rw[bk] at hx;obtain⟨u,hu,_⟩:=h6 _ _ hx;rw[Addr.jB];refine hb b (by simp) g sz h1 _ _ ?_;rw[gE h2,hu]; simp
         ·obtain⟨x,hx⟩:=bt (l:=cs.drop off) (i:=j) (by have:=az hc; omega);obtain⟨y,b',e1,e2,e3⟩:=X1 j x hx;rw[e2] at hc;simp at hc;subst hc;rw[bk] at hx;obtain⟨u,hu,r⟩:=h6 _ _ hx;refine ih x _ _ b' e1 (fun c hc=>hb c (by simp[e3 c hc])) ?_;rw[hu]; exact r
      ·cases hf
     ·cases hf
   |sl k b off len=>
     simp only[GA] at hf;split at hf
     ·rename_i cs dQ;split at hf
      ·rename_i rq;split at hf
       ·rename_i ys bs' hm;simp at hf;obtain⟨rfl,rfl⟩:=hf;obtain⟨NY,X1⟩:=wA hm;have Bp:ys.length=len*k:=by rw[NY,bD,eV]; omega
        obtain⟨gl,gm⟩:=Mr k len ys (by omega);cases r with
        |sl _ _ _ _ _ a cap QB hc ha=>
          obtain⟨g,sz,arr,e,h1,h2,h3,h4,h5,h6⟩:=h.cat dQ fun g sz hg=>by have:=(ha g sz hg).2; omega
          obtain⟨Vy,iN⟩:=ha g sz h1;by_cases Mn:0<cap
          case neg=>
           have Vp:len=0:=by omega
           subst Vp;refine .yG _ _ _ _ _ _ (fun _ _=>undef) gl.symm hc (fun x hx=>?_) (fun i j x c hx hc=>?_) (fun i j x c hx hc=>?_)
           all_goals simp[Iw] at hx
          obtain rfl:=Vy Mn
          have key:∀(i j:Nat) (x c:AV),(Iw k len ys)[i]?=some x->x.cells[j]?=some c->i*k+j<len*k/\j<k/\ys[i*k+j]?=some c:=by
           intro i j x c hx hc;obtain⟨e1,e2⟩:=gm i x hx;rw[e1,bT] at hc;split at hc
           ·rename_i hj;rw[bk] at hc;have:=az hc;exact⟨by omega,hj,hc⟩
           ·cases hc
          refine .yG _ _ _ _ _ _ (fun i j=>arr[off+(i*k+j)]?.getD undef) gl.symm hc (fun x hx=>?_) (fun i j x c hx hc=>?_) (fun i j x c hx hc=>?_)
          ·obtain⟨i,hi⟩:=bG hx;obtain⟨e1,e2⟩:=gm i x hi;rw[e1,bD,eV,Bp];have:i*k+k<=len*k:=by rw[<-Nat.succ_mul]; exact bV _ e2
           omega
          ·obtain⟨k1,k2,k3⟩:=key i j x c hx hc;obtain⟨z,hz⟩:=bt (l:=(cs.drop off).take (len*k)) (i:=i*k+j) (by have:=az k3; omega);rw[aZ k1,bk] at hz;obtain⟨u,hu,_⟩:=h6 _ _ hz;rw[Addr.jB];refine hb b (by simp) g sz h1 _ _ ?_;rw[gE h2,hu]; simp
          ·obtain⟨k1,k2,k3⟩:=key i j x c hx hc;obtain⟨z,hz⟩:=bt (l:=(cs.drop off).take (len*k)) (i:=i*k+j) (by have:=az k3; omega);obtain⟨y,b',e1,e2,e3⟩:=X1 _ z hz;rw[e2] at k3;simp at k3;subst k3;rw[aZ k1,bk] at hz;obtain⟨u,hu,r⟩:=h6 _ _ hz;refine ih z _ _ b' e1 (fun c hc=>hb c (by simp[e3 c hc])) ?_;rw[hu]; exact r
       ·cases hf
      ·cases hf
     ·cases hf
   |agg cs=>
     simp only[GA] at hf;split at hf
     ·rename_i ys bs' hm;simp at hf;obtain⟨rfl,rfl⟩:=hf;cases r with
      |agg _ _ vs hl hr=>
        obtain⟨l1,r1⟩:=many hm (fun _ h=>h) hl hr;exact .agg _ _ _ l1 r1
     ·cases hf
   |dR cs=>
     simp only[GA] at hf;split at hf
     ·rename_i ys bs' hm;simp at hf;obtain⟨rfl,rfl⟩:=hf;cases r with
      |dR _ _ vs hl hr=>
        obtain⟨l1,r1⟩:=many hm (fun _ h=>h) hl hr;exact .dR _ _ _ l1 r1
     ·cases hf
   |func f as cs=>
     simp only[GA] at hf;split at hf
     ·rename_i ys bs1 zs bs2 hm0 hm1 hm2;simp at hf;obtain⟨rfl,rfl⟩:=hf;cases r with
      |func _ _ _ va _ vb hy Dz Dy ha jJ=>
        obtain⟨l1,r1⟩:=many hm1 (fun _ h=>by simp[h]) Dz ha;obtain⟨l2,r2⟩:=many hm2 (fun _ h=>by simp[h]) Dy jJ;exact .func _ _ _ _ _ _ hy l1 l2 r1 r2
      |Dg=>cases hm0
     ·cases hf
   |_=>
     simp only[GA,af,aF] at hf;obtain⟨rfl,rfl⟩:=hf;exact (r.dL rfl []).mono hR (.refl _)
end Go.Am

/- The check that ties compact operations to the operations of the dump. -/
namespace Go.Am

def MP:Value->AV->Bool
 |.bool a,.bool b=>a == b
 |.int k n,.int k' m=>decide (k=k')&&decide (n=m)
 |.slice none 0 0,.dC=>true
 |.pointer none,.fY=>true
 |.nilFunc,.gh=>true
 |.string a,.str b=>decide (a=b)
 |.tuple vs,.undef=>vs.isEmpty
 |_,_=>false
def uE:List Value->List AV->Bool
 |[],[]=>true
 |v::r,x::s=>MP v x&&uE r s
 |_,_=>false
def chkV:Value->AV->Bool
 |.agg cs,.agg ds=>uE cs.toList ds
 |v,x=>MP v x
def dj:Operand->E->Bool
 |.tmp t,.t i=>decide (t=i)
 |.const v,.k x=>chkV v x
 |.func f,.k (.func (.func g) [] [])=>decide (f=g)
 |.global g,.g i=>decide (g=i)
 |_,_=>false
def jL:List Operand->List E->Bool
 |[],[]=>true
 |x::r,y::s=>dj x y&&jL r s
 |_,_=>false
def uI:Option Operand->Option E->Bool
 |none,none=>true
 |some x,some y=>dj x y
 |_,_=>false
def uF (place:Nat->Option (Nat × Nat)):List (Nat × Operand)->List (Nat × Nat × E)->Bool
 |[],[]=>true
 |(i,x)::r,(off,sz,y)::s=>decide (place i=some (off,sz))&&dj x y&&uF place r s
 |_,_=>false

def nA (P:Program) (t:TypeId):Option (Option Nat):=
 match P.underlying t with
 |some (.struct _)|some (.array _ _)=>match P.info? t with
   |some i=>some (some i.size)
   |none=>none
 |some _=>some none
 |none=>none
def qf (P:Program) (t:TypeId) (k:Nat):Bool:=
 match P.info? t with
 |some i=>decide (i.size=k)
 |none=>false
def rO (P:Program) (t:TypeId) (zs:List AV):Bool:=
 match P.info? t with
 |some i=>match i.zero with
   |some z=>uE z.cells.toList zs&&bF zs
   |none=>false
 |none=>false
def jA (P:Program) (t:TypeId) (k:Nat):Bool:=
 match P.underlying t with
 |some (.slice e)=>match P.info? e with
   |some i=>decide (i.size=k)&&decide (0<k)&&decide (i.bytes<=1024)&&(match i.zero with
     |some z=>decide (z.cells.size=k)
     |none=>false)
   |none=>false
 |_=>false
def jb (P:Program) (t:TypeId) (zs:List AV):Bool:=
 match P.underlying t with
 |some (.slice e)=>rO P e zs
 |_=>false
def uZ (P:Program) (fs:Array Field) (i:Nat):Option (Nat × Nat):=
 match fs[i]? with
 |some f=>match P.info? f.type with
   |some j=>some (f.offset,j.size)
   |none=>none
 |none=>none
def vH (P:Program):Nat->List Field->List Bool->Bool
 |_,[],[]=>true
 | o, f :: r, b :: s => decide (f.offset = o) && decide (f.name ≠ "_") && (match P.underlying f.type with
   |some (.int _)=>b
   |some .bool=>!b
   |_=>false)&&vH P (o+1) r s
 |_,_,_=>false
def MT (P:Program) (t:TypeId):Et->Bool
 |.bool=>match P.underlying t with
   |some .bool=>true
   |_=>false
 |.Xs=>match P.underlying t with
   |some (.slice _)=>true
   |_=>false
 |.Lx=>match P.underlying t with
   |some (.pointer _)=>true
   |_=>false
 |.nfn=>match P.underlying t with
   |some (.func _ _ _)=>true
   |_=>false
 |.str l=>match P.underlying t with
   |some (.struct fs)=>!P.stoodInHeld t&&!P.eqGuardType P.depth t&&vH P 0 fs.toList l
   |_=>false
def QL (P:Program) (t:TypeId) (z:AV):Bool:=
 match P.info? t with
 |some i=>match i.zero with
   |some v=>MP v z
   |none=>false
 |none=>false
def uH (P:Program) (t:TypeId):Kt->Bool
 |.kint k=>match P.underlying t with
   |some (.int k')=>decide (k=k')
   |_=>false
 |.Du=>match P.underlying t with
   |some .string=>true
   |_=>false
 |.kst l=>match P.underlying t with
   |some (.struct fs)=>!P.stoodInHeld t&&!P.eqGuardType P.depth t&&vH P 0 fs.toList l
   |_=>false
def isSlice (P:Program) (t:TypeId):Bool:=
 match P.underlying t with
 |some (.slice _)=>true
 |_=>false

def eqOp:BinOp->Bool->Bool
 |.eql,ng=>!ng
 |.neq,ng=>ng
 |_,_=>false
def di (P:Program):Op->Kd->Bool
 |.move x,.mv y=>dj x y
 |.assign x,.mv y=>dj x y
 |.pick c a b,.pick c' a' b'=>dj c c'&&dj a a'&&dj b b'
 |.alloc t,.new zs=>rO P t zs
 |.box _ x,.box y=>dj x y
 |.build t ps,.build zs qs=>rO P t zs&&(match P.underlying t with
   |some (.struct fs)=>(fs.toList.all fun f=>(P.info? f.type).isSome)&&uF (uZ P fs) ps.toList qs
   |some (.array _ e)=>match P.info? e with
     |some i=>uF (fun j=>some (j*i.size,i.size)) ps.toList qs
     |none=>false
   |_=>false)
 |.buildSlice t n ps,.dw k m zs qs=>decide (n=m)&&jA P t k&&jb P t zs&&decide (n*k<=16777216)&&uF (fun j=>some (j*k,k)) ps.toList qs
 |.load t a,.ld ag y=>decide (nA P t=some ag)&&dj a y
 |.store t a v,.st k b y=>qf P t k&&dj a b&&dj v y
 |.nilCheck x,.pD y=>dj x y
 |.binOp op _ x y _,.bin op' x' y'=>decide (op=op')&&dj x x'&&dj y y'
 |.binOp op t x y _,.eq ng et x' y'=>eqOp op ng&&MT P t et&&dj x x'&&dj y y'
 |.unOp op _ x,.un op' y=>decide (op=op')&&dj x y
 |.convert s d x,.SH k y=>(P.underlying s).isSome&&(match P.underlying d with
   |some (.int k')=>decide (k=k')
   |_=>false)&&dj x y
 |.makeFunc fn as bs,.Sy fn' cs ds=>decide (fn=fn')&&jL as.toList cs&&jL bs.toList ds
 |.makeSlice t l c,.Rr k zs l' c'=>jA P t k&&jb P t zs&&dj l l'&&dj c c'
 |.slice t x lo hi none,.Io k y lo' xB=>jA P t k&&dj x y&&uI lo lo'&&uI hi xB
 |.fieldAddr s x f,.vL off y=>(match P.underlying s with
   |some (.struct fs)=>match fs[f]? with
     |some fd=>decide (fd.offset=off)&&(match P.info? fd.type with
       |some i=>decide (i.size≠0)
       |none=>false)
     |none=>false
   |_=>false)&&dj x y
 |.field s x f,.fld off ag y=>(match P.underlying s with
   |some (.struct fs)=>match fs[f]? with
     |some fd=>decide (fd.offset=off)&&decide (nA P fd.type=some ag)
     |none=>false
   |_=>false)&&dj x y
 |.indexAddr t x i,.ti k y j=>jA P t k&&dj x y&&dj i j
 |.indexAddr t x i,.wC n k y j=>(match P.underlying t with
   |some (.array n' e)=>decide (n=n')&&qf P e k
   |_=>false)&&dj x y&&dj i j
 |.index t x i,.ix n k ag y j=>(match P.underlying t with
   |some (.array n' e)=>decide (n=n')&&qf P e k&&decide (nA P e=some ag)
   |_=>false)&&dj x y&&dj i j
 |.index t (.const (.string s)) i,.ixs tab j=>(match P.underlying t with
   |some .string=>true
   |_=>false)&&decide (s.data.toList.map (·.toNat)=tab)&&dj i j
 |.call { callee:=.builtin .clear,args,argTypes },.Rg k zs x=>(match args.toList,argTypes.toList with
   |[x'],[t]=>jA P t k&&jb P t zs&&dj x' x
   |_,_=>false)
 |.extract x i,.ext j y=>decide (i=j)&&dj x y
 |.call { callee:=.value (.func f),args,argTypes:=_ },.call g xs=>decide (f=g)&&jL args.toList xs
 |.call { callee:=.value x,args,argTypes:=_ },.jM y xs=>dj x y&&jL args.toList xs
 |.call { callee:=.builtin .len,args,argTypes },.len y=>(match args.toList,argTypes.toList with
   |[x],[t]=>isSlice P t&&dj x y
   |_,_=>false)
 |.call { callee:=.builtin .append,args,argTypes },.app k x y=>(match args.toList,argTypes.toList with
   |[x',y'],[t,t']=>decide (t=t')&&jA P t k&&dj x' x&&dj y' y
   |_,_=>false)
 |.call { callee:=.builtin .min,args,argTypes:=_ },.min xs=>jL args.toList xs
 |.call { callee:=.builtin .max,args,argTypes:=_ },.max xs=>jL args.toList xs
 |.slice t x none hi none,.Of n y xB=>(match P.underlying t with
   |some (.array n' e)=>decide (n=n')&&qf P e 1
   |_=>false)&&(dj x y&&uI hi xB)
 |.call { callee:=.builtin .copy,args,argTypes },.copy k x y=>(match args.toList,argTypes.toList with
   |[x',y'],[t,_]=>jA P t k&&dj x' x&&dj y' y
   |_,_=>false)
 |.makeMap _ none,.Ga=>true
 |.lookup t x i ok,.BP kt ok' z y k=>decide (ok=ok')&&(match P.underlying t with
   |some (.map key el)=>uH P key kt&&QL P el z
   |_=>false)&&dj x y&&dj i k
 |.mapUpdate t m i v,.Df kt y k u=>(match P.underlying t with
   |some (.map key _)=>uH P key kt
   |_=>false)&&dj m y&&dj i k&&dj v u
 |_,.bad=>true
 |_,_=>false

def R8 (P:Program) (N:Nat) (ops:Array Oper) (o:Oper) (q:O):Bool:=
 decide (o.dst=q.dst)&&(match q.dst with
  |some d=>decide (d<N)
  |none=>true)&&(match o.guard,q.guard with
  |none,none=>true
  |some (j,want),some (g,ajT)=>decide ((ops[j]?).bind (·.dst)=some g)&&decide (want=ajT)
  |_,_=>false)&&di P o.op q.kd
def akI (P:Program) (N:Nat) (ops:Array Oper):List Oper->List O->Bool
 |[],[]=>true
 |o::r,q::s=>R8 P N ops o q&&akI P N ops r s
 |_,_=>false
def kh (x y:O):Bool:=
 (match x.dst with
  |some d=>!mem d y.reads&&decide (y.dst≠some d)
  |none=>true) &&
 (match y.dst with
  |some d=>!mem d x.reads
  |none=>true)
def lG (i j:Nat):List (Nat × Nat)->Bool
 |[]=>false
 |p::r=>(decide (p.1=i)&&decide (p.2=j))||lG i j r
def direct (y:Oper):List Nat:=(y.after.toList.filter fun e=>Region.binds .any e).map (·.on)
def dedup:List Nat->List Nat
 |[]=>[]
 |x::r=>if mem x (dedup r) then dedup r else x::dedup r
def Ni (Fz:List (List Nat)) (y:Oper):List Nat:=dedup (direct y++(dedup (direct y)).flatMap fun i=>Fz.getD i [])
def ajz (un:List (Nat × Nat)) (i j:Nat) (x:O) (ys:List Nat) (q:O):Bool:=mem i ys||(kh x q&&(x.kd.pure||q.kd.pure||lG i j un))
def Qr (un:List (Nat × Nat)) (j:Nat) (ys:List Nat) (q:O):Nat->List O->Bool
 |_,[]=>true
 |i,x::r=>ajz un i j x ys q&&Qr un j ys q (i+1) r
def V2 (un:List (Nat × Nat)) (Fz:List (List Nat)) (seen:List O):List Oper->List O->Bool
 |y::r,q::s=>((direct y).all fun i=>decide (i<seen.length))&&Qr un seen.length (Ni Fz y) q 0 seen&&V2 un (Fz++[Ni Fz y]) (seen++[q]) r s
 |_,_=>true
def chk (P:Program) (N:Nat):Code->C->Bool
 |.skip,.skip=>true
 |.ret,.ret=>true
 |.exit i,.exit j=>decide (i=j)
 |.region _ ops d,.qT os dr un _=>decide (d=dr)&&akI P N ops ops.toList os&&(!dr||V2 un [] [] ops.toList os)
 |.seq a b,.seq x y=>chk P N a x&&chk P N b y
 |.cond c a b,.cond c' x y=>dj c c'&&chk P N a x&&chk P N b y
 |.block i b,.aH j x=>decide (i=j)&&chk P N b x
 |.loop b,.loop x=>chk P N b x
 |.label _,.skip=>true
 |.scope b,.seq .skip x=>chk P N b x
 |_,_=>false
def chkR (P:Program):ResultVar->Rv->Bool
 |.tmp t,.t i=>decide (t=i)
 |.cell a t,.c i ag=>decide (a=i)&&decide (nA P t=some ag)
 |_,_=>false
def Ii (P:Program):List ResultVar->List Rv->Bool
 |[],[]=>true
 |x::r,y::s=>chkR P x y&&Ii P r s
 |_,_=>false
def chkF (P:Program) (fn:Func) (q:fM):Bool:=
 decide (fn.ntmps = q.n) && !(fn.name == "runtime.NumGoroutine") && Ii P fn.results.toList q.res && (match fn.body with
  |some c=>chk P q.n c q.body
  |none=>false)
structure Wl (P:Program) (c:eS):Prop where
 mixed:P.follows .mixedOrders=true
 fn:∀f m q,c.fn f=some (m,q)->∃fn,P.funcs[f]?=some fn/\chkF P fn q=true
end Go.Am

/- What one operation of the dump does is what the compact operation says: the operations that call nothing. -/
namespace Go.Am

def eI (c:eS) (X:Nat->Prop) (φ:dx) (w:World):Prop:=∀g,bR (Rd X φ w) [] (.dG (c.gl g)) (.pointer (some ⟨g,0,none⟩))
theorem eI.oN {c:eS} {X:Nat->Prop} {φ φ':dx} {w w':World} (h:eI c X φ w) (a:ft φ w φ' w'):eI c X φ' w':=fun g=>(h g).mono a.rd (.refl _)

def Ok (P:Program) (X:Nat->Prop) (φ:dx) (w:World) (o:Oper) (a:Act) (v:AV) (H':Heap):Prop:=
 ∀ (K:Act->World->Prop) (Q:Exit->Act->World->Prop),(∀v' w' φ',bR (Rd X φ' w') φ' v v'->cm X φ' w' H'->ft φ w φ' w'->K (a.put o.dst v') w')->o.wp P a w K Q

section
variable {P:Program} {c:eS} {X:Nat->Prop} {φ:dx} {w:World} {env:Env} {H:Heap} {a:Act} {o:Oper}

theorem Ok.value {v:AV} {v':Value} {w':World} {H':Heap} {φ':dx} (hr:(execOp a.eval o).run P w=.ok (.value v') w') (r:bR (Rd X φ' w') φ' v v') (h:cm X φ' w' H') (k:ft φ w φ' w'):Ok P X φ w o a v H':=by
 intro K Q hK;unfold Oper.wp;rw[hr];exact hK v' w' φ' r h k
theorem Ok.quiet {v:AV} {v':Value} (hr:(execOp a.eval o).run P w=.ok (.value v') w) (r:bR (Rd X φ w) φ v v') (h:cm X φ w H):Ok P X φ w o a v H:=Ok.value hr r h (.refl _ _)
theorem Ok.skip {w':World} {H':Heap} {φ':dx} (hr:(execOp a.eval o).run P w=.ok .skip w') (h:cm X φ' w' H') (k:ft φ w φ' w'):Ok P X φ w o a .undef H':=by
 intro K Q hK;unfold Oper.wp;rw[hr];exact hK undef w' φ' (.undef _) h k

theorem GG {R:Addr->Value->Prop} {ψ:dx} {v:Value} {x:AV} (h:MP v x=true):bR R ψ x v:=by
 unfold MP at h;split at h
 ·simp at h; subst h; exact .bool _ _
 ·simp at h; obtain⟨rfl,rfl⟩:=h; exact .int _ _ _
 ·exact .dC _
 ·exact .fY _
 ·exact .gh _
 ·simp at h; subst h; exact .str _ _
 ·rename_i vs;have:vs=#[]:=by simpa using h
  subst this;exact .undef _
 ·cases h
theorem GF {R:Addr->Value->Prop} {ψ:dx}:∀{vs:List Value} {xs:List AV},uE vs xs=true->xs.length=vs.length/\∀ (i:Nat) (x:AV) (v:Value),xs[i]?=some x->vs[i]?=some v->bR R ψ x v
 |[],[],_=>⟨rfl,fun i x v hx=>by simp at hx⟩
 |[],_::_,h=>by simp[uE] at h
 |_::_,[],h=>by simp[uE] at h
 |v::r,x::s,h=>by
   simp only[uE,ae] at h;obtain⟨hl,hm⟩:=GF (R:=R) (ψ:=ψ) h.2;refine⟨by simp[hl],fun i y u hy hu=>?_⟩;cases i with
   |zero=>simp at hy hu; subst hy; subst hu; exact GG h.1
   |succ i=>simp at hy hu; exact hm i y u hy hu
theorem ag4 {R:Addr->Value->Prop} {ψ:dx} {v:Value} {x:AV} (h:chkV v x=true):bR R ψ x v:=by
 unfold chkV at h;split at h
 ·rename_i cs ds;obtain⟨hl,hm⟩:=GF (R:=R) (ψ:=ψ) h;exact .agg _ _ _ (by simpa using hl) fun i x v hx hv=>hm i x v hx (by simpa using hv)
 ·exact GG h
theorem cj (he:rH X φ w env a.tmps) (hg:eI c X φ w) {x:Operand} {y:E} (h:dj x y=true):bR (Rd X φ w) φ (ev c env y) (a.eval x):=by
 unfold dj at h;split at h
 ·simp at h; subst h; exact he _
 ·exact ag4 h
 ·simp at h; subst h;exact .func _ _ _ _ _ _ rfl rfl rfl (fun i c v hc=>by simp at hc) (fun i c v hc=>by simp at hc)
 ·simp at h; subst h; exact (hg _).dL rfl _
 ·cases h

def rI (X:Nat->Prop) (φ:dx) (w:World) (xs:List AV) (vs:Array Value):Prop:=xs.length=vs.size/\∀ (i:Nat) (x:AV) (v:Value),xs[i]?=some x->vs[i]?=some v->bR (Rd X φ w) φ x v
theorem qx (he:rH X φ w env a.tmps) (hg:eI c X φ w):∀{xs:List Operand} {ys:List E},jL xs ys=true ->
  (I3 c env ys).length=xs.length/\∀ (i:Nat) (x:AV) (v:Value),(I3 c env ys)[i]?=some x->(xs.map a.eval)[i]?=some v->bR (Rd X φ w) φ x v
 |[],[],_=>⟨rfl,fun i x v hx=>by simp[I3] at hx⟩
 |[],_::_,h=>by simp[jL] at h
 |_::_,[],h=>by simp[jL] at h
 |x::r,y::s,h=>by
   simp only[jL,ae] at h;obtain⟨hl,hm⟩:=qx he hg h.2;refine⟨by simp[I3,hl],fun i z v hz hv=>?_⟩;cases i with
   |zero=>simp[I3] at hz hv; subst hz; subst hv; exact cj he hg h.1
   |succ i=>simp[I3] at hz; simp at hv; exact hm i z v hz (by simpa using hv)

/-! Places -/
def SJ (X:Nat->Prop) (φ:dx) (w:World) (cs:List AV) (ad:Addr):Prop:=∀(j:Nat) (x:AV),cs[j]?=some x->∃u,w.cell? (ad.add j)=some u/\bR (Rd X φ w) φ x u
theorem bR.HV {R:Addr->Value->Prop} {x:AV} {v:Value} (h:bR R [] x v) (φ:dx):bR R φ x v:=h.mono (fun _ _ h=>h) ⟨Nat.zero_le _,fun b p hb=>by simp at hb⟩
theorem SJ.abm {cs:List AV} {v:Value} (h:bR (Rd X φ w) φ (.dG cs) v):∃ad,v=.pointer (some ad)/\SJ X φ w cs ad:=by
 cases h with
 |dG _ _ ad u hu h=>exact⟨ad,rfl,fun j x hx=>⟨u j,(hu j x hx).2.2,(h j x hx).HV φ⟩⟩
theorem SJ.Xr (hh:cm X φ w H) {b off:Nat} {cs:List AV} (hb:aH H b=some cs) {v:Value} (h:bR (Rd X φ w) φ (.ptr b off) v) :
  ∃ g sz arr e,v=.pointer (some ⟨g,off,none⟩)/\φ[b]?=some (some (g,sz))/\w.heap[g]?=some (.cells arr e (0,0))/\arr.size+1=sz/\cs.length<=arr.size/\¬ X g /\
   (∀(i:Nat) (c:AV),cs[i]?=some c->∃u,arr[i]?=some u/\bR (Rd X φ w) φ c u)/\SJ X φ w (cs.drop off) ⟨g,off,none⟩:=by
 cases h with
 |ptr _ _ _ ad QB hp=>
   obtain⟨g,sz,arr,e,h1,h2,h3,h4,h5,h6⟩:=hh.cat hb fun g sz hg=>(hp g sz hg).2;obtain⟨rfl,_⟩:=hp g sz h1;refine⟨g,sz,arr,e,rfl,h1,h2,h3,h4,h5,h6,fun j x hx=>?_⟩;rw[bk] at hx;obtain⟨u,hu,r⟩:=h6 _ _ hx;exact⟨u,by rw[Addr.jB,gE h2]; exact hu,r⟩
theorem SJ.values {cs:List AV} {ad:Addr} (h:SJ X φ w cs ad):∀n,n<=cs.length->∃vs:List Value,vs.length=n/\(∀(j:Nat) (v:Value),vs[j]?=some v->w.cell? (ad.add j)=some v) /\
  ∀ (j:Nat) (x:AV) (v:Value),(cs.take n)[j]?=some x->vs[j]?=some v->bR (Rd X φ w) φ x v
 |0,_=>⟨[],rfl,fun j v hv=>by simp at hv,fun j x v hx=>by simp at hx⟩
 |n+1,hn=>by
   obtain⟨vs,hl,h1,h2⟩:=SJ.values h n (by omega);obtain⟨x,hx⟩:=bt (l:=cs) (i:=n) (by omega);obtain⟨u,hu,r⟩:=h n x hx;refine⟨vs++[u],by simp[hl],fun j v hv=>?_,fun j y v hy hv=>?_⟩
   ·by_cases hj:j<vs.length
    ·rw[aA hj] at hv; exact h1 j v hv
    ·have bE:=az hv;simp at bE;have hje:j=n:=by omega
     subst hje;rw[aL (by omega)] at hv;simp[hl] at hv;subst hv;exact hu
   ·by_cases hj:j<vs.length
    ·rw[aA hj] at hv;rw[aZ (by omega)] at hy;exact h2 j y v (by rw[aZ (by omega)]; exact hy) hv
    ·have bE:=az hv;simp at bE;have hje:j=n:=by omega
     subst hje;rw[aL (by omega)] at hv;simp[hl] at hv;subst hv;rw[aZ (by omega),hx] at hy;simp at hy;subst hy;exact r

theorem zr {t:TypeId} {i:TypeInfo} (h:P.info? t=some i):(typeInfo t).run P w=.ok i w:=by simp[typeInfo,h]
theorem jm {t:TypeId} {i:TypeInfo} (h:P.info? t=some i):(sizeOf t).run P w=.ok i.size w:=by simp[sizeOf,zr h]
theorem tR {t:TypeId} {i:TypeInfo} {z:Value} (h:P.info? t=some i) (hz:i.zero=some z):(zeroValue t).run P w=.ok z w:=by simp[zeroValue,zr h,hz]

theorem Nk {t:TypeId} {k:Nat} (h:nA P t=some (some k)):∃i,P.info? t=some i/\i.size=k/\(isAgg t).run P w=.ok true w:=by
 unfold nA at h;split at h
 ·rename_i fs hu;split at h
  ·rename_i i hi;exact⟨i,hi,by simpa using h,by simp[isAgg,run_underlying hu]⟩
  ·cases h
 ·rename_i n e hu;split at h
  ·rename_i i hi;exact⟨i,hi,by simpa using h,by simp[isAgg,run_underlying hu]⟩
  ·cases h
 ·simp at h
 ·cases h
theorem qB {t:TypeId} (h:nA P t=some none):(isAgg t).run P w=.ok false w:=by
 unfold nA at h;split at h
 ·split at h<;>simp at h
 ·split at h<;>simp at h
 ·rename_i d h1 h2 hu;simp only[isAgg,Sem.run_bind,run_underlying hu,Result.andThen_ok];rfl
 ·cases h
theorem Rs {t:TypeId} {ag:Option Nat} (ha:nA P t=some ag) {cs:List AV} {x:AV} (hx:FO ag cs=some x) {ad:Addr} (hp:SJ X φ w cs ad) :
  ∃ v,(loadVar t ad).run P w=.ok v w/\bR (Rd X φ w) φ x v:=by
 cases ag with
 |some k=>
   obtain⟨i,hi,hk,Ff⟩:=Nk (w:=w) ha;simp only[FO] at hx;split at hx
   ·rename_i hle;simp at hx;subst hx;obtain⟨vs,hl,h1,h2⟩:=hp.values k hle;have hlc:=run_loadCells_list (P:=P) w ad vs h1;refine⟨.agg vs.toArray,?_,.agg _ _ _ (by simp[hl]; omega) fun i c v hc hv=>h2 i c v hc (by simpa using hv)⟩;simp only[loadVar,Sem.run_bind,Ff,Result.andThen_ok,if_true,jm hi,hk];rw[<-hl,hlc];simp
   ·cases hx
 |none=>
   have Ff:=qB (P:=P) (w:=w) ha;simp only[FO] at hx;cases cs with
   |nil=>simp at hx
   |cons y r=>
     simp at hx;subst hx;obtain⟨u,hu,r⟩:=hp 0 y rfl;rw[Addr.add_zero'] at hu;refine⟨u,?_,r⟩;simp only[loadVar,Sem.run_bind,Ff,Result.andThen_ok,bH,if_false,run_load,hu]

theorem aa6 {t:TypeId} {ag:Option Nat} (ha:nA P t=some ag) {cs:List AV} {vs:Array Value} (hl:cs.length=vs.size)
  (hr:∀(i:Nat) (c:AV) (v:Value),cs[i]?=some c->vs[i]?=some v->bR (Rd X φ w) φ c v) {off:Nat} {x:AV} (hx:FO ag (cs.drop off)=some x) :
  ∃ v,(part t vs off).run P w=.ok v w/\bR (Rd X φ w) φ x v:=by
 cases ag with
 |some k=>
   obtain⟨i,hi,hk,Ff⟩:=Nk (w:=w) ha;simp only[FO] at hx;split at hx
   ·rename_i hle;simp at hx;subst hx;rw[eV] at hle;refine⟨.agg (vs.extract off (off+k)),?_,.agg _ _ _ ?_ fun j c v hc hv=>?_⟩
    ·simp only[part,Sem.run_bind,Ff,Result.andThen_ok,if_true,jm hi,hk,Sem.run_pure]
    ·simp only[bD,eV,Array.size_extract]; omega
    ·have hjk:j<k:=by have:=az hc; simp only[bD] at this; omega
     rw[aZ hjk,bk] at hc
     have hv':vs[off+j]?=some v:=by
      rw[Array.getElem?_extract] at hv;split at hv
      ·exact hv
      ·cases hv
     exact hr _ c v hc hv'
   ·cases hx
 |none=>
   have Ff:=qB (P:=P) (w:=w) ha;simp only[FO,List.head?_drop] at hx;have bE:=az hx;obtain⟨v,hv⟩:=cc (l:=vs) (i:=off) (by omega);exact⟨v,by simp only[part,Sem.run_bind,Ff,Result.andThen_ok,bH,if_false,hv,Sem.run_pure],hr off x v hx hv⟩

theorem iD {k:IntKind} {n:Int} {v:Value} (h:bR (Rd X φ w) φ (.int k n) v):v=.int k n:=by cases h; rfl
theorem o9 {b:Bool} {v:Value} (h:bR (Rd X φ w) φ (.bool b) v):v=.bool b:=by cases h; rfl

theorem ahH {op:BinOp} {t:TypeId} {k k':IntKind} {x y:Int} {r:AV} (h:tq op (.int k x) (.int k' y)=some r) :
  ∃ v,(binOp op t (.int k x) (.int k' y)).run P w=.ok v w/\∀ R ψ,bR R ψ r v:=by
 cases op<;>simp only[tq,arith] at h
 case shl=>
  split at h
  ·cases h
  ·rename_i hn;simp at h; subst h;exact⟨_,by simp[binOp,Op.shift,hn],fun _ _=>.int _ _ _⟩
 case shr=>
  split at h
  ·cases h
  ·rename_i hn;simp at h; subst h;exact⟨_,by simp[binOp,Op.shift,hn],fun _ _=>.int _ _ _⟩
 all_goals
  split at h
  ·rename_i hk;subst hk
   first
    |(simp at h; subst h; first|exact⟨_,by simp[go_sem],fun _ _=>.int _ _ _⟩|exact⟨_,by simp[go_sem],fun _ _=>.bool _ _⟩)
    | (split at h
       ·cases h
       ·rename_i hn;simp at h; subst h;exact⟨_,by simp[go_sem,hn],fun _ _=>.int _ _ _⟩)
  ·cases h

theorem R3 {l:List Bool} {xs ys:List AV} {e:Bool} (h:Bz (true::l) xs ys=some e) :
  ∃ k a r b s e',xs=.int k a::r/\ys=.int k b::s/\Bz l r s=some e'/\e=(a == b&&e'):=by
 cases xs with
 |nil=>simp[Bz] at h
 |cons x r=>
   cases ys with
   |nil=>cases x<;>simp[Bz] at h
   |cons y s=>
     cases x<;>cases y<;>simp[Bz] at h
     rename_i k a k' b;obtain⟨rfl,h⟩:=h;split at h
     ·rename_i e' he;simp at h;exact⟨k,a,r,b,s,e',rfl,rfl,he,h.symm⟩
     ·cases h
theorem MD {l:List Bool} {xs ys:List AV} {e:Bool} (h:Bz (false::l) xs ys=some e) :
  ∃ a r b s e',xs=.bool a::r/\ys=.bool b::s/\Bz l r s=some e'/\e=(a == b&&e'):=by
 cases xs with
 |nil=>simp[Bz] at h
 |cons x r=>
   cases ys with
   |nil=>cases x<;>simp[Bz] at h
   |cons y s=>
     cases x<;>cases y<;>simp[Bz] at h
     rename_i a b;split at h
     ·rename_i e' he;simp at h;exact⟨a,r,b,s,e',rfl,rfl,he,h.symm⟩
     ·cases h
theorem wX (d:Nat):∀(fs:List Field) (l:List Bool) (off:Nat) (xs ys:List AV) (vx vy:Array Value) (e:Bool),vH P off fs l=true->Bz l (xs.drop off) (ys.drop off)=some e ->
  xs.length=vx.size->ys.length=vy.size->(∀(i:Nat) (c:AV) (v:Value),xs[i]?=some c->vx[i]?=some v->bR (Rd X φ w) φ c v) ->
  (∀(i:Nat) (c:AV) (v:Value),ys[i]?=some c->vy[i]?=some v->bR (Rd X φ w) φ c v)->(Op.eqFields (d+1) vx vy fs).run P w=.ok e w
 |[],[],off,xs,ys,vx,vy,e,_,he,_,_,_,_=>by
   generalize xs.drop off=a at he;generalize ys.drop off=b at he;cases a<;>cases b<;>simp[Bz] at he
   subst he;rfl
 |[],_::_,_,_,_,_,_,_,h,_,_,_,_,_=>by simp[vH] at h
 |_::_,[],_,_,_,_,_,_,h,_,_,_,_,_=>by simp[vH] at h
 |f::fs,b::l,off,xs,ys,vx,vy,e,h,he,Gv,Gu,hx,hy=>by
   simp only[vH,ae,decide_eq_true_eq] at h;obtain⟨⟨⟨RL,Fb⟩,IZ⟩,PT⟩:=h;have ih:=fun e he=>wX d fs l (off+1) xs ys vx vy e PT he Gv Gu hx hy
   have cell:∀(zs:List AV) (vz:Array Value) (z:AV) (r:List AV),zs.length=vz.size->zs.drop off=z::r->(∃v,vz[off]?=some v)/\zs[off]?=some z/\zs.drop (off+1)=r:=by
    intro zs vz z r hl hd
    have h0:zs[off]?=some z:=by
     have h:=congrArg (·[0]?) hd;simp only[bk,SL,Cf] at h;exact h
    refine⟨cc (by have:=az h0; omega),h0,?_⟩;rw[<-List.tail_drop,hd]; rfl
   split at IZ
   ·rename_i k hu;subst IZ;have Ff:nA P f.type=some none:=by simp[nA,hu]
    have hna:=qB (P:=P) (w:=w) Ff;obtain⟨kx,a,r,b',s,e',hdx,hdy,hee,rfl⟩:=R3 he;obtain⟨⟨vx0,hvx⟩,BQ,hx1⟩:=cell xs vx _ _ Gv hdx;obtain⟨⟨vy0,hvy⟩,hy0,hy1⟩:=cell ys vy _ _ Gu hdy;obtain rfl:=iD (hx off _ vx0 BQ hvx);obtain rfl:=iD (hy off _ vy0 hy0 hvy);have ih':=ih e' (by rw[hx1,hy1]; exact hee);simp only[Op.eqFields,Fb,ne_eq,not_false_eq_true,if_true,part,Sem.run_bind,hna,Result.andThen_ok,bH,if_false,RL,hvx,hvy,Sem.run_pure,run_equalIn_int w d f.type kx k a b' hu];cases hab:(a == b')<;>simp[ih']
   ·rename_i hu;simp only[bN] at IZ;subst IZ;have Ff:nA P f.type=some none:=by simp[nA,hu]
    have hna:=qB (P:=P) (w:=w) Ff;obtain⟨a,r,b',s,e',hdx,hdy,hee,rfl⟩:=MD he;obtain⟨⟨vx0,hvx⟩,BQ,hx1⟩:=cell xs vx _ _ Gv hdx;obtain⟨⟨vy0,hvy⟩,hy0,hy1⟩:=cell ys vy _ _ Gu hdy;obtain rfl:=o9 (hx off _ vx0 BQ hvx);obtain rfl:=o9 (hy off _ vy0 hy0 hvy);have ih':=ih e' (by rw[hx1,hy1]; exact hee);simp only[Op.eqFields,Fb,ne_eq,not_false_eq_true,if_true,part,Sem.run_bind,hna,Result.andThen_ok,bH,if_false,RL,hvx,hvy,Sem.run_pure,run_equalIn_bool w d f.type a b' hu];cases hab:(a == b')<;>simp[ih']
   ·cases IZ
end
end Go.Am

/- What one operation of the dump does, continued: memory. -/
set_option linter.unusedSimpArgs false
namespace Go.Am
section
variable {P:Program} {c:eS} {X:Nat->Prop} {φ:dx} {w:World} {env:Env} {H:Heap} {a:Act} {o:Oper}

def Cs (X:Nat->Prop) (φ:dx) (w:World) (cs:List AV) (vs:List Value):Prop:=cs.length=vs.length/\∀ (i:Nat) (c:AV) (v:Value),cs[i]?=some c->vs[i]?=some v->bR (Rd X φ w) φ c v
theorem Cs.get {cs:List AV} {vs:List Value} (h:Cs X φ w cs vs) {i:Nat} {c:AV} (hc:cs[i]?=some c):∃u,vs[i]?=some u/\bR (Rd X φ w) φ c u:=by
 obtain⟨u,hu⟩:=bt (l:=vs) (i:=i) (h.1▸az hc);exact⟨u,hu,h.2 i c u hc hu⟩
theorem Cs.append {cs ds:List AV} {vs us:List Value} (h:Cs X φ w cs vs) (k:Cs X φ w ds us):Cs X φ w (cs++ds) (vs++us):=by
 refine⟨by simp[h.1,k.1],fun i c v hc hv=>?_⟩;by_cases hi:i<cs.length
 ·rw[aA hi] at hc;rw[aA (h.1▸hi)] at hv;exact h.2 i c v hc hv
 ·rw[aL (by omega)] at hc;rw[aL (by have:=h.1; omega)] at hv;rw[h.1] at hc;exact k.2 _ c v hc hv
theorem Cs.take {cs:List AV} {vs:List Value} (h:Cs X φ w cs vs) (n:Nat):Cs X φ w (cs.take n) (vs.take n):=by
 refine⟨by simp[h.1],fun i c v hc hv=>?_⟩;have hi:i<n:=by have:=az hc; simp at this; omega
 rw[aZ hi] at hc hv;exact h.2 i c v hc hv
theorem Cs.drop {cs:List AV} {vs:List Value} (h:Cs X φ w cs vs) (n:Nat):Cs X φ w (cs.drop n) (vs.drop n):=by
 refine⟨by simp[h.1],fun i c v hc hv=>?_⟩;rw[bk] at hc hv;exact h.2 _ c v hc hv
theorem Cs.kj {cs ds:List AV} {vs us:List Value} (h:Cs X φ w cs vs) (k:Cs X φ w ds us) (off:Nat):Cs X φ w (kj cs off ds) (vs.take off++us++vs.drop (off+us.length)):=by
 unfold Am.kj;rw[<-k.1];exact ((h.take off).append k).append (h.drop _)
theorem bR.cs {x:AV} {v:Value} (h:bR (Rd X φ w) φ x v) (hs:bF x.cells=true):Cs X φ w x.cells v.cells.toList/\∀ u∈v.cells.toList,u.oneCell'=true:=by
 obtain⟨hl,hm⟩:=h.cells hs;refine⟨⟨by simpa using hl,fun i c u hc hu=>?_⟩,fun u hu=>?_⟩
 ·obtain⟨u',h1,h2,_⟩:=hm i c hc;simp at hu;rw[h1] at hu;simp at hu;subst hu;exact h2
 ·obtain⟨i,hi⟩:=bG hu;obtain⟨c,hc⟩:=bt (l:=x.cells) (i:=i) (by have:=az hi; simp at this; omega);obtain⟨u',h1,_,h3⟩:=hm i c hc;simp at hi;rw[h1] at hi;simp at hi;subst hi;exact h3
theorem Cs.vd {cs:List AV} {vs:List Value} (h:Cs X φ w cs vs) (hl:bF cs=true):∀u∈vs,u.oneCell'=true:=by
 intro u hu;obtain⟨i,hi⟩:=bG hu;obtain⟨c,hc⟩:=bt (l:=cs) (i:=i) (by have:=az hi; have:=h.1; omega);exact (h.2 i c u hc hi).vd (AK hl i c hc)
theorem vO {t:TypeId} {zs:List AV} (h:rO P t zs=true):∃i z,P.info? t=some i/\i.zero=some z/\Cs X φ w zs z.cells.toList/\bF zs=true:=by
 unfold rO at h;split at h
 ·rename_i i hi;split at h
  ·rename_i z hz;simp only[ae] at h;exact⟨i,z,hi,hz,GF h.1,h.2⟩
  ·cases h
 ·cases h
theorem jK {t:TypeId} {k:Nat} (h:jA P t k=true):∃e i z,P.underlying t=some (.slice e)/\P.info? e=some i/\i.size=k/\0<k/\i.bytes<=1024/\i.zero=some z/\z.cells.size=k:=by
 unfold jA at h;split at h
 ·rename_i e hu;split at h
  ·rename_i i hi;simp only[ae,decide_eq_true_eq] at h;obtain⟨⟨⟨h1,h2⟩,h3⟩,h4⟩:=h;split at h4
   ·rename_i z hz;exact⟨e,i,z,hu,hi,h1,h2,h3,hz,by simpa using h4⟩
   ·cases h4
  ·cases h
 ·cases h

theorem wM (hh:cm X φ w H) {arr:Array Value} {e:TypeId} {cs:List AV} {w1:World} (hw:w1.heap=w.heap) (ho:w1.os=w.os) (ht:w1.tape=w.tape) (hp:w1.output=w.output)
  (hl:cs.length<=arr.size) (hc:∀(i:Nat) (c:AV),cs[i]?=some c->∃u,arr[i]?=some u/\bR (Rd X φ w) φ c u) (hd:w.drawn<=w1.drawn:=by first|exact aJ _|exact Nat.le_succ _) :
  cm X (φ++[some (w.heap.size,arr.size+1)]) (w1.alloc (.cells arr e)) (H++[some cs])/\ft φ w (φ++[some (w.heap.size,arr.size+1)]) (w1.alloc (.cells arr e)):=
 hh.alloc (w':=w1.alloc (.cells arr e)) (e:=e) (by simp[World.alloc,hw]) ho ht hp hl hc hd
theorem Cs.at {cs:List AV} {vs:List Value} {arr:Array Value} (h:Cs X φ w cs vs) (hv:∀(i:Nat) (u:Value),vs[i]?=some u->arr[i]?=some u):∀(i:Nat) (c:AV),cs[i]?=some c->∃u,arr[i]?=some u/\bR (Rd X φ w) φ c u:=by
 intro i c hc;obtain⟨u,hu,r⟩:=h.get hc;exact⟨u,hv i u hu,r⟩
theorem abq {R:Addr->Value->Prop} {n g sz:Nat} (hn:φ.length=n):bR R (φ++[some (g,sz+1)]) (.ptr n 0) (.pointer (some ⟨g,0,none⟩)):=by
 refine .ptr _ _ _ _ (by simp[hn]) fun g' pX h=>?_;subst hn;simp at h;obtain⟨rfl,rfl⟩:=h;exact⟨rfl,by omega⟩
theorem Ro {R:Addr->Value->Prop} {n g sz k len cap:Nat} (hn:φ.length=n) (hc:len<=cap) (hs:cap*k<=sz):bR R (φ++[some (g,sz+1)]) (.sl k n 0 len) (.slice (some ⟨g,0,none⟩) len cap):=by
 refine .sl _ _ _ _ _ _ _ (by simp[hn]) hc fun g' pX h=>?_;subst hn;simp at h;obtain⟨rfl,rfl⟩:=h;exact⟨fun _=>rfl,by omega⟩
theorem abp {R:Addr->Value->Prop} {ψ:dx} {n g sz k len cap:Nat} (hn:ψ.length=n) (hc:len<=cap) (hs:cap*k<=sz):bR R (ψ++[some (g,sz+1)]) (.sl k n 0 len) (.slice (some ⟨g,0,none⟩) len cap):=Ro hn hc hs

theorem Xn {t:TypeId} {zs:List AV} (fu:o.op=.alloc t) (hh:cm X φ w H) (hz:rO P t zs=true):Ok P X φ w o a (.ptr H.length 0) (H++[some zs]):=by
 obtain⟨i,z,hi,hz,dQ,_⟩:=vO (X:=X) (φ:=φ) (w:=w) hz;obtain⟨h1,h2⟩:=wM hh (w1:=w) (arr:=z.cells) (e:=t) rfl rfl rfl rfl (by rw[dQ.1]; simp) (dQ.at (by simp));refine Ok.value ?_ (abq hh.len) h1 h2;simp[execOp,fu,Instr.alloc,tR hi hz,newVar,newRow]
theorem amc {t:TypeId} {x:Operand} {v:AV} (fu:o.op=.box t x) (hh:cm X φ w H) (r:bR (Rd X φ w) φ v (a.eval x)) (hs:bF v.cells=true) :
  Ok P X φ w o a (.ptr H.length 0) (H++[some v.cells]):=by
 obtain⟨dQ,_⟩:=r.cs hs;obtain⟨h1,h2⟩:=wM hh (w1:=w) (arr:=(a.eval x).cells) (e:=t) rfl rfl rfl rfl (by rw[dQ.1]; simp) (dQ.at (by simp));refine Ok.value ?_ (abq hh.len) h1 h2;simp[execOp,fu,Instr.box,newVar,newRow]

theorem anF {t:TypeId} {x:Operand} {y:E} {ag:Option Nat} {v:AV} {H':Heap} {fl:Fp} {call:Nat->List AV->Heap->Option (AV × Heap)} (fu:o.op=.load t x) (hh:cm X φ w H) (r:bR (Rd X φ w) φ (ev c env y) (a.eval x))
  (ha:nA P t=some ag) (hs:ga c call env H (.ld ag y)=some (v,H',fl)):Ok P X φ w o a v H':=by
 have go:∀{cs:List AV} {ad:Addr},a.eval x=.pointer (some ad)->SJ X φ w cs ad->FO ag cs=some v->Ok P X φ w o a v H:=by
  intro cs ad hx hp hv;obtain⟨u,h1,h2⟩:=Rs ha hv hp;exact Ok.quiet (by simp[execOp,fu,hx,Instr.loadAt,Instr.sureAddr,h1]) h2 hh
 simp only[ga] at hs;split at hs
 ·rename_i cs hc;split at hs
  ·rename_i u hu;simp at hs;obtain⟨rfl,rfl,rfl⟩:=hs;rw[hc] at r;obtain⟨ad,h1,h2⟩:=SJ.abm r;exact go h1 h2 hu
  ·cases hs
 ·rename_i b off hc;split at hs
  ·rename_i cs hb;split at hs
   ·rename_i u hu;simp at hs;obtain⟨rfl,rfl,rfl⟩:=hs;rw[hc] at r;obtain⟨g,sz,arr,e,h1,_,_,_,_,_,_,h2⟩:=SJ.Xr hh hb r;exact go h1 h2 hu
   ·cases hs
  ·cases hs
 ·cases hs

theorem gT {cs vs:List AV} {off:Nat} (h:off+vs.length<=cs.length):(kj cs off vs).length=cs.length:=by
 unfold kj;simp only[bO,bD,eV];omega
theorem ahD (l us:List Value) (off n i:Nat) (h:off+us.length<=n) (hn:n<=l.length) (hi:i<n) :
  (l.take off++us++l.drop (off+us.length))[i]?=((l.take n).take off++us++(l.take n).drop (off+us.length))[i]?:=by
 have e1:(l.take off).length=off:=by simp; omega
 have e2:((l.take n).take off).length=off:=by simp; omega
 by_cases h1:i<off
 ·rw[dS,dS,aA (by omega),aA (by omega),aZ h1,aZ h1,aZ hi]
 ·by_cases h2:i<off+us.length
  ·have f1:i<(l.take off++us).length:=by rw[bO,e1]; omega
   have f2:i<((l.take n).take off++us).length:=by rw[bO,e2]; omega
   rw[aA f1,aA f2,aL (by omega),aL (by omega),e1,e2]
  ·have f1:(l.take off++us).length=off+us.length:=by rw[bO,e1]
   have f2:((l.take n).take off++us).length=off+us.length:=by rw[bO,e2]
   rw[aL (by omega),aL (by omega),f1,f2,bk,bk,aZ (by omega)]
theorem I8 (hh:cm X φ w H) {b off:Nat} {cs:List AV} (hb:aH H b=some cs) {v:Value} (r:bR (Rd X φ w) φ (.ptr b off) v) {ds:List AV} {us:List Value} (dQ:Cs X φ w ds us)
  (h1:∀u∈us,u.oneCell'=true) (rq:off+ds.length<=cs.length) :
  ∃ g w',v=.pointer (some ⟨g,off,none⟩)/\(storeCells ⟨g,off,none⟩ us).run P w=.ok () w'/\cm X φ w' (H.set b (some (kj cs off ds)))/\ft φ w φ w':=by
 obtain⟨g,sz,arr,e,rfl,jV,hg,pH,hle,hX,hm,_⟩:=SJ.Xr hh hb r;have NV:=run_storeCells_at P g off e us 0 arr w hg (by rw[<-dQ.1]; omega) h1;simp only[Cf] at NV
 have Fa:(arr.toList.take off++us++arr.toList.drop (off+us.length)).toArray.size=arr.size:=by
  simp only[vM,bO,bD,eV,tu,<-dQ.1]; omega
 have key:∀(i:Nat) (x:AV),(kj cs off ds)[i]?=some x->∃u,(arr.toList.take off++us++arr.toList.drop (off+us.length)).toArray[i]?=some u/\bR (Rd X φ w) φ x u:=by
  intro i x hx
  have Iu:Cs X φ w (cs.take cs.length) (arr.toList.take cs.length):=by
   refine⟨by simp; omega,fun i c u hc hu=>?_⟩;have hi:i<cs.length:=by have:=az hc; simp at this; omega
   rw[aZ hi] at hc hu;obtain⟨u',h1,h2⟩:=hm i c hc;simp at hu;rw[h1] at hu;simp at hu;subst hu;exact h2
  rw[List.take_length] at Iu;have hov:=Iu.kj dQ off;obtain⟨u,hu,r⟩:=hov.get hx;refine⟨u,?_,r⟩;have hi:i<cs.length:=by have:=az hx; rw[gT rq] at this; exact this
  have hul:=dQ.1;simp only[AR];rw[<-hu];exact ahD arr.toList us off cs.length i (by omega) (by simp; omega) hi
 obtain⟨k1,k2⟩:=hh.store (cs':=kj cs off ds) (arr':=(arr.toList.take off++us++arr.toList.drop (off+us.length)).toArray) jV hg pH Fa rfl hX
  (by rw[gT rq,Fa]; omega) key
 exact⟨g,_,rfl,NV,k1,k2⟩
theorem afn {t:TypeId} {x y:Operand} {b off k:Nat} {cs:List AV} {v:AV} (fu:o.op=.store t x y) (hh:cm X φ w H) (hb:aH H b=some cs) (hk:qf P t k=true)
  (rx:bR (Rd X φ w) φ (.ptr b off) (a.eval x)) (ry:bR (Rd X φ w) φ v (a.eval y)) (hl:v.cells.length=k) (rq:off+k<=cs.length) (hs:bF v.cells=true) :
  Ok P X φ w o a .undef (H.set b (some (kj cs off v.cells))):=by
 obtain⟨dQ,h1⟩:=ry.cs hs;obtain⟨g,w',hx,NV,k1,k2⟩:=I8 (P:=P) hh hb rx dQ h1 (by omega);refine Ok.skip ?_ k1 k2;unfold qf at hk;split at hk
 ·rename_i i hi;simp at hk;have pH:(a.eval y).cells.size=i.size:=by have:=dQ.1; simp at this; omega
  simp[execOp,fu,hx,Instr.storeAt,Instr.sureAddr,storeVar,jm hi,pH,NV]
 ·cases hk

/-! Composite literals -/
theorem MB (off:Nat):∀(l:List Value) (n:Nat) (arr:Array Value),
  ((l.zipIdx n).foldl (fun cs (p:Value × Nat)=>cs.setIfInBounds (off+p.2) p.1) arr).size=arr.size /\
  (off+n+l.length<=arr.size->((l.zipIdx n).foldl (fun cs (p:Value × Nat)=>cs.setIfInBounds (off+p.2) p.1) arr).toList=arr.toList.take (off+n)++l++arr.toList.drop (off+n+l.length))
 |[],n,arr=>by simp
 |v::r,n,arr=>by
   simp only[List.zipIdx_cons,List.foldl_cons];obtain⟨h1,h2⟩:=MB off r (n+1) (arr.setIfInBounds (off+n) v);refine⟨by rw[h1]; simp,fun rq=>?_⟩;simp only[cH] at rq;rw[h2 (by simp; omega)];apply dW;intro i;simp only[Array.toList_setIfInBounds,cH];by_cases h0:i<off+n
   ·rw[aA (by simp; omega),aA (by simp; omega),aA (by simp; omega),aA (by simp; omega),
     aZ (by omega),aZ h0,cT (by omega)]
   ·by_cases h3:i=off+n
    ·subst h3
     rw[aA (by simp; omega),aA (by simp; omega),aA (by simp; omega),aL (by simp; omega),
      aZ (by omega),List.getElem?_set_self (by simp; omega)]
     have e1:(arr.toList.take (off+n)).length=off+n:=by simp; omega
     rw[e1]; simp
    ·by_cases h4:i<off+n+(r.length+1)
     ·rw[aA (by simp; omega),aL (by simp; omega),aA (by simp; omega),aL (by simp; omega)];have e1:(arr.toList.take (off+n)).length=off+n:=by simp; omega
      have e2:((arr.toList.set (off+n) v).take (off+(n+1))).length=off+n+1:=by simp; omega
      rw[e1,e2,show i-(off+n)=(i-(off+n+1))+1 by omega,p9]
     ·rw[aL (by simp; omega),aL (by simp; omega),bk,bk,cT (by simp; omega)];congr 1;simp only[bO,bD,List.length_set,tu,cH];omega
theorem adm (v:Value) (off:Nat) (arr:Array Value) (h:off+v.cells.size<=arr.size) :
  (v.cells.zipIdx.foldl (fun cs (p:Value × Nat)=>cs.setIfInBounds (off+p.2) p.1) arr).toList=arr.toList.take off++v.cells.toList++arr.toList.drop (off+v.cells.toList.length):=by
 have h2:=(MB off v.cells.toList 0 arr).2 (by simpa using h);rw[<-Array.foldl_toList,Array.toList_zipIdx];simpa using h2
theorem vp (he:rH X φ w env a.tmps) (hg:eI c X φ w) {place:Nat->Option (Nat × Nat)}:∀{ps:List (Nat × Operand)} {qs:List (Nat × Nat × E)} {zs cs:List AV} {arr:Array Value},
  uF place ps qs=true->Cs X φ w zs arr.toList->rD c env zs qs=some cs->∃arr',Instr.fill place arr (ps.map fun p=>(p.1,a.eval p.2))=some arr'/\Cs X φ w cs arr'.toList
 |[],[],zs,cs,arr,_,hz,hf=>by simp[rD] at hf; subst hf; exact⟨arr,rfl,hz⟩
 |[],_::_,_,_,_,h,_,_=>by simp[uF] at h
 |_::_,[],_,_,_,h,_,_=>by simp[uF] at h
 |(i,x)::r,(off,sz,y)::s,zs,cs,arr,h,hz,hf=>by
   simp only[uF,ae,decide_eq_true_eq] at h;obtain⟨⟨hp,hx⟩,PT⟩:=h;simp only[rD] at hf;split at hf
   ·rename_i hc;obtain⟨h1,h2,h3⟩:=hc;obtain⟨dQ,_⟩:=(cj he hg hx).cs h3;have pH:(a.eval x).cells.size=sz:=by have:=dQ.1; simp at this; omega
    have Gr:zs.length=arr.size:=by simpa using hz.1
    have anP:=adm (a.eval x) off arr (by omega)
    have Vt:Cs X φ w (kj zs off (ev c env y).cells) ((a.eval x).cells.zipIdx.foldl (fun cs (p:Value × Nat)=>cs.setIfInBounds (off+p.2) p.1) arr).toList:=by
     rw[anP]; exact hz.kj dQ off
    obtain⟨arr',e1,e2⟩:=vp he hg PT Vt hf;refine⟨arr',?_,e2⟩;simp only[eQ,Instr.fill,hp];rw[if_neg (by simp[pH]; omega)];exact e1
   ·cases hf

theorem run_places (fs:List Field) (h:∀f∈fs,(P.info? f.type).isSome=true) :
  (fs.mapM (m:=Sem) fun f=>do pure (f.offset,<-sizeOf f.type)).run P w=.ok (fs.map fun f=>(f.offset,((P.info? f.type).map (·.size)).getD 0)) w:=by
 induction fs with
 |nil=>rfl
 |cons f r ih=>
   obtain⟨i,hi⟩:=bf.1 (h f (by simp));have ih':=ih fun g hg=>h g (by simp[hg]);simp only[List.mapM_cons,Sem.run_bind,jm hi,Result.andThen_ok,Sem.run_pure,ih',eQ,hi,cG,eJ]
theorem afz {t:TypeId} {ps:Array (Nat × Operand)} {qs:List (Nat × Nat × E)} {zs cs:List AV} (fu:o.op=.build t ps) (hh:cm X φ w H) (he:rH X φ w env a.tmps) (hg:eI c X φ w)
  (hz:rO P t zs=true) (hu:(match P.underlying t with
  |some (.struct fs)=>(fs.toList.all fun f=>(P.info? f.type).isSome)&&uF (uZ P fs) ps.toList qs
  |some (.array _ e)=>match P.info? e with
    |some i=>uF (fun j=>some (j*i.size,i.size)) ps.toList qs
    |none=>false
  |_=>false)=true) (hf:rD c env zs qs=some cs):Ok P X φ w o a (.agg cs) H:=by
 obtain⟨i,z,hi,hz,dQ,_⟩:=vO (X:=X) (φ:=φ) (w:=w) hz;split at hu
 ·rename_i fs hut;simp only[ae,pY] at hu;obtain⟨arr',e1,e2⟩:=vp he hg hu.2 dQ hf;refine Ok.quiet (v':=.agg arr') ?_ (.agg _ _ _ (by simpa using e2.1) fun i c v hc hv=>e2.2 i c v hc (by simpa using hv)) hh;have oS:=run_places (P:=P) (w:=w) fs.toList hu.1
  have hpl2:(fs.mapM (m:=Sem) fun f=>do pure (f.offset,<-sizeOf f.type)).run P w=.ok (fs.toList.map fun f=>(f.offset,((P.info? f.type).map (·.size)).getD 0)).toArray w:=by
   rw[<-BM (xs:=fs),List.mapM_toArray];simp only[Sem.run_map,oS,Result.andThen_ok,BM]
  have amC:(fun j=>((fs.toList.map fun f=>(f.offset,((P.info? f.type).map (·.size)).getD 0)).toArray)[j]?)=uZ P fs:=by
   funext j;simp only[AR,cu,fo,uZ];cases hfj:fs[j]? with
   |none=>rfl
   |some f=>
     obtain⟨i,hi⟩:=bf.1 (hu.1 f (WH.2 (Array.mem_of_getElem? hfj)));simp[hi]
  simp only[execOp,fu,Instr.build,Sem.run_bind,tR hi hz,Result.andThen_ok,run_underlying hut,hpl2,amC];have:(Il (fun x=>(x.1,a.eval x.2)) ps).toList=ps.toList.map fun p=>(p.1,a.eval p.2):=by simp
  simp only[this,e1,Sem.run_pure,Result.andThen_ok]
 ·rename_i n e hut;split at hu
  ·rename_i ie hie;obtain⟨arr',e1,e2⟩:=vp he hg hu dQ hf;refine Ok.quiet (v':=.agg arr') ?_ (.agg _ _ _ (by simpa using e2.1) fun i c v hc hv=>e2.2 i c v hc (by simpa using hv)) hh;have:(Il (fun x=>(x.1,a.eval x.2)) ps).toList=ps.toList.map fun p=>(p.1,a.eval p.2):=by simp
   simp only[execOp,fu,Instr.build,Sem.run_bind,tR hi hz,Result.andThen_ok,run_underlying hut,jm hie,this,e1,Sem.run_pure]
  ·cases hu
 ·cases hu

theorem Zm (zs:List AV):∀(n i:Nat),i<n*zs.length->(rep zs n)[i]?=zs[i%zs.length]?
 |0,i,h=>by simp at h
 |n+1,i,h=>by
   rw[rep];by_cases hi:i<zs.length
   ·rw[aA hi,Nat.mod_eq_of_lt hi]
   ·rw[aL (by omega),Zm zs n _ (by rw[cO] at h; omega),<-Nat.mod_eq_sub_mod (by omega)]
theorem nO (zs:List AV):∀n,(rep zs n).length=n*zs.length
 |0=>by simp[rep]
 |n+1=>by rw[rep,bO,nO zs n,cO]; omega
theorem aeb {zs:List AV} (h:bF zs=true):∀n,bF (rep zs n)=true:=by
 have app:∀{a b:List AV},bF a=true->bF b=true->bF (a++b)=true:=by
  intro a
  induction a with
  |nil=>intro b _ hb; exact hb
  |cons x r ih=>intro b ha hb; simp only[bF,ae,List.cons_append] at *; exact⟨ha.1,ih ha.2 hb⟩
 intro n
 induction n with
 |zero=>rfl
 |succ n ih=>exact app h ih
theorem W6 {zs:List AV} {z:Array Value} (h:Cs X φ w zs z.toList) {n m:Nat} (hm:n*z.size<=m) {arr:Array Value} (hz:arr.size=m) (ha:∀i,i<m->arr[i]?=some (z[i%z.size]!)) :
  ∀ (i:Nat) (c:AV),(rep zs n)[i]?=some c->∃u,arr[i]?=some u/\bR (Rd X φ w) φ c u:=by
 intro i c hc;have Gr:zs.length=z.size:=by simpa using h.1
 have hi:i<n*zs.length:=by have:=az hc; rwa [nO] at this
 rw[Zm zs n i hi] at hc;rw[Gr] at hc hi;refine⟨_,ha i (by omega),?_⟩;obtain⟨u,hu,r⟩:=h.get hc;simp at hu;rw[getElem!_def,hu];exact r
theorem ac2 {t:TypeId} {n k:Nat} {ps:Array (Nat × Operand)} {qs:List (Nat × Nat × E)} {zs cs:List AV} (fu:o.op=.buildSlice t n ps) (hh:cm X φ w H) (he:rH X φ w env a.tmps) (hg:eI c X φ w)
  (hk:jA P t k=true) (hz:jb P t zs=true) (hn:n*k<=16777216) (hq:uF (fun j=>some (j*k,k)) ps.toList qs=true) (hf:rD c env (rep zs n) qs=some cs) :
  Ok P X φ w o a (.sl k H.length 0 n) (H++[some cs]):=by
 obtain⟨e,i,z,hu,hi,wS,hk0,hby,Vr,Wq⟩:=jK hk;simp only[jb,hu] at hz;obtain⟨i',z',xB,NS,dQ,_⟩:=vO (X:=X) (φ:=φ) (w:=w) hz;rw[hi] at xB;simp at xB;subst xB;rw[Vr] at NS;simp at NS;subst NS;have Gr:zs.length=k:=by have:=dQ.1; simp at this; omega
 have Iu:Cs X φ w (rep zs n) ((BN (n*k)).map (z.cells[·%z.cells.size]!)).toList:=by
  refine⟨by rw[nO,Gr]; simp,fun j c v hc hv=>?_⟩;obtain⟨u,h1,h2⟩:=W6 dQ (n:=n) (m:=n*k) (by rw[Wq]; omega) (arr:=(BN (n*k)).map (z.cells[·%z.cells.size]!)) (by simp) (fun i hi=>by simp[hi]) j c hc;rw[fo,h1] at hv;simp at hv;subst hv;exact h2
 obtain⟨arr',e1,e2⟩:=vp he hg hq Iu hf
 have pH:arr'.size=n*k:=by
  have fl:∀{ps:List (Nat × Nat × E)} {zs cs:List AV},rD c env zs ps=some cs->cs.length=zs.length:=by
   intro ps
   induction ps with
   |nil=>intro zs cs h; simp[rD] at h; rw[h]
   |cons p r ih=>
     intro zs cs h;obtain⟨o,s,y⟩:=p;simp only[rD] at h;split at h
     ·rename_i hc; rw[ih h,gT (by omega)]
     ·cases h
  have h1:=fl hf;have h2:=e2.1;simp only[tu] at h2;rw[<-h2,h1,nO,Gr]
 obtain⟨h1,h2⟩:=wM hh (w1:=w) (arr:=arr') (e:=e) rfl rfl rfl rfl (by rw[e2.1]; simp) (e2.at (by simp));refine Ok.value ?_ (Ro hh.len (aJ n) (by omega)) h1 h2;have yU:(Il (fun x=>(x.1,a.eval x.2)) ps).toList=ps.toList.map fun p=>(p.1,a.eval p.2):=by simp
 have SC : ¬ (n * k > 2 ^ 24) := by have : (2:Nat) ^ 24 = 16777216 := by decide
                                    omega
 have hzero:(if n*i.size=0 then (pure #[]:Sem (Array Value)) else do pure (<- zeroValue e).cells).run P w=.ok (if n*k=0 then #[] else z.cells) w:=by
  rw[wS];split<;>simp[tR hi Vr]
 have amG:(BN (n*k)).map ((if n*k=0 then #[] else z.cells)[·%(if n*k=0 then #[] else z.cells).size]!)=(BN (n*k)).map (z.cells[·%z.cells.size]!):=by
  by_cases h0:n*k=0
  ·simp[h0]
  ·simp[h0]
 simp only[execOp,fu,Instr.buildSlice,Sem.run_bind,run_underlying hu,Result.andThen_ok,jm hi,wS,Sem.run_ite,SC,if_false];rw[wS] at hzero;simp only[Sem.run_ite,Sem.run_bind,Sem.run_pure,tR hi Vr,Result.andThen_ok] at hzero ⊢;have e1':=e1;rw[<-amG,<-yU] at e1';split
 ·rename_i h0;simp only[h0,if_true] at e1' ⊢;simp only[Result.andThen_ok,Array.range_zero',Array.map_empty] at e1' ⊢;rw[show (Instr.fill (fun i=>some (i*k,k)) #[] (Il (fun x=>(x.1,a.eval x.2)) ps).toList)=some arr' from e1'];simp[newRow]
 ·rename_i h0;simp only[h0,if_false,Result.andThen_ok] at e1' ⊢;rw[show (Instr.fill (fun i=>some (i*k,k)) ((BN (n*k)).map (z.cells[·%z.cells.size]!)) (Il (fun x=>(x.1,a.eval x.2)) ps).toList)=some arr' from e1'];simp[newRow]
end
end Go.Am

/- What one operation of the dump does: numbers, tests, slices, append. -/
namespace Go.Am
section
variable {P:Program} {c:eS} {X:Nat->Prop} {φ:dx} {w:World} {env:Env} {H:Heap} {a:Act} {o:Oper}

theorem aic {x y z:Operand} {t:Bool} {u v:AV} (fu:o.op=.pick x y z) (hh:cm X φ w H) (r:bR (Rd X φ w) φ (.bool t) (a.eval x)) (ru:bR (Rd X φ w) φ u (a.eval y)) (rv:bR (Rd X φ w) φ v (a.eval z)) :
  Ok P X φ w o a (if t then u else v) H:=by
 have hx:=o9 r;cases t
 ·exact Ok.quiet (v':=a.eval z) (by simp[execOp,fu,hx,asBool]) (by simpa using rv) hh
 ·exact Ok.quiet (v':=a.eval y) (by simp[execOp,fu,hx,asBool]) (by simpa using ru) hh
theorem Zl {R:Addr->Value->Prop} {s:ByteArray} {v:Value} (h:bR R φ (.str s) v):v=.string s:=by cases h; rfl
theorem amd {op:BinOp} {t t':TypeId} {x y:Operand} {u v r:AV} (fu:o.op=.binOp op t x y t') (hh:cm X φ w H) (ru:bR (Rd X φ w) φ u (a.eval x)) (rv:bR (Rd X φ w) φ v (a.eval y)) (hr:tq op u v=some r) :
  Ok P X φ w o a r H:=by
 have yH:=hr;unfold tq at yH;split at yH
 ·rename_i k n k' n';have hx:=iD ru;have hy:=iD rv;obtain⟨v',h1,h2⟩:=ahH (P:=P) (w:=w) (t:=t) hr;exact Ok.quiet (v':=v') (by simp[execOp,fu,hx,hy,eqGuard_at_int,h1]) (h2 _ _) hh
 ·rename_i s1 s2;split at yH
  case h_2=>cases yH
  split at yH
  case isFalse=>cases yH
  rename_i hl;simp only[af] at yH;subst yH;have hx:=Zl ru;have hy:=Zl rv;exact Ok.quiet (v':=.string (s1++s2)) (by simp[execOp,fu,hx,hy,eqGuard_at_string,binOp,run_string_add_sum w s1 s2 (by omega)]) (.str _ _) hh
 ·cases yH

theorem WZ (d:Nat) {t e:TypeId} (h:P.underlying t=some (.slice e)) (x:Option Addr) (n m:Nat):(Op.equalIn (d+1) t (.slice x n m) (.slice none 0 0)).run P w=.ok x.isNone w:=by
 cases x<;>simp[Op.equalIn,run_underlying h]
theorem S9 (d:Nat) {t e:TypeId} (h:P.underlying t=some (.pointer e)) (x:Option Addr):(Op.equalIn (d+1) t (.pointer x) (.pointer none)).run P w=.ok x.isNone w:=by
 cases x<;>simp[Op.equalIn,run_underlying h]
theorem W0 (d:Nat) {t:TypeId} {ps rs:Array TypeId} {vr:Bool} (h:P.underlying t=some (.func ps rs vr)) (f:Fn) (x y:Array Value):(Op.equalIn (d+1) t (.func f x y) .nilFunc).run P w=.ok false w:=by
 simp[Op.equalIn,run_underlying h]
theorem Ta (d:Nat) {t:TypeId} {ps rs:Array TypeId} {vr:Bool} (h:P.underlying t=some (.func ps rs vr)):(Op.equalIn (d+1) t .nilFunc .nilFunc).run P w=.ok true w:=by
 simp[Op.equalIn,run_underlying h]
theorem ahG {op:BinOp} {ng:Bool} {t:TypeId} {x y:Operand} {u v:Value} {e:Bool} (ho:eqOp op ng=true) (hg:(eqGuard op t x y u v).run P w=.ok () w) (hb:∀op',binOp .eql t u v=(do pure (.bool (<- Op.equal t u v)))/\(op'=BinOp.neq->binOp .neq t u v=(do pure (.bool (!(<- Op.equal t u v))))))
  (h:(Op.equalIn 10000 t u v).run P w=.ok e w):(do eqGuard op t x y u v; binOp op t u v).run P w=.ok (.bool (if ng then !e else e)) w:=by
 have h':(Op.equal t u v).run P w=.ok e w:=by unfold Op.equal Op.maxDepth; exact h
 cases op<;>simp[eqOp] at ho
 ·subst ho;simp only[Sem.run_bind,hg,Result.andThen_ok,(hb .eql).1,h',Sem.run_pure];simp
 ·subst ho;simp only[Sem.run_bind,hg,Result.andThen_ok,(hb .neq).2 rfl,h',Sem.run_pure];simp
theorem ok_eq {op:BinOp} {ng:Bool} {et:Et} {t t':TypeId} {x y:Operand} {u v:AV} {e:Bool} (fu:o.op=.binOp op t x y t') (hh:cm X φ w H) (ho:eqOp op ng=true) (hc:MT P t et=true) (ru:bR (Rd X φ w) φ u (a.eval x)) (rv:bR (Rd X φ w) φ v (a.eval y)) (hr:eqA et u v=some e) :
  Ok P X φ w o a (.bool (if ng then !e else e)) H:=by
 have fin:∀{p q:Value},a.eval x=p->a.eval y=q->(eqGuard op t x y p q).run P w=.ok () w ->
   (∀op',binOp .eql t p q=(do pure (.bool (<- Op.equal t p q)))/\(op'=BinOp.neq->binOp .neq t p q=(do pure (.bool (!(<- Op.equal t p q))))))->(Op.equalIn 10000 t p q).run P w=.ok e w ->
   Ok P X φ w o a (.bool (if ng then !e else e)) H:=by
  intro p q hp hq hg hb h;have:=ahG (x:=x) (y:=y) ho hg hb h;refine Ok.quiet ?_ (.bool _ _) hh;simp only[execOp,fu,hp,hq,Sem.run_bind,Result.andThen_ok,Sem.run_pure] at this ⊢;rw[this];rfl
 unfold eqA at hr;split at hr
 ·rename_i b b';simp at hr;subst hr;have hx:=o9 ru;have hy:=o9 rv;simp only[MT] at hc;split at hc
  ·rename_i hu;refine fin hx hy (by rw[eqGuard_at_bool]; rfl) (fun _=>⟨by simp[binOp],fun _=>by simp[binOp]⟩) ?_;exact run_equalIn_bool w 9999 t b b' hu
  ·cases hc
 ·rename_i l xs ys;generalize hx:a.eval x=p at ru;generalize hy:a.eval y=q at rv;cases ru with
  |agg _ _ vx Gv hrx=>
    cases rv with
    |agg _ _ vy Gu hry=>
      simp only[MT] at hc;split at hc
      ·rename_i fs hu;simp only[ae,bN] at hc;obtain⟨⟨Wt,I1⟩,hc3⟩:=hc;have hfo:P.fieldsOf t=fs:=by simp[Program.fieldsOf,hu]
       refine fin hx hy (run_eqGuard_agg w op t x y vx vy I1) (fun _=>⟨by simp[binOp],fun _=>by simp[binOp]⟩) ?_;rw[show (10000:Nat)=9999+1 from rfl,run_equalIn_struct w 9999 t vx vy (by rw[hu,hfo]) Wt,hfo];exact wX 9998 fs.toList l 0 xs ys vx vy e hc3 (by simpa using hr) Gv Gu hrx hry
      ·cases hc
 ·generalize hy:a.eval y=q at rv;cases rv;simp only[MT] at hc;split at hc
  ·rename_i el hu
   have sl:∀{ad:Option Addr} {n m:Nat},a.eval x=.slice ad n m->ad.isNone=e->Ok P X φ w o a (.bool (if ng then !e else e)) H:=by
    intro ad n m hx he;subst he;exact fin hx hy (by rw[eqGuard_at_slice]; rfl) (fun _=>⟨by simp[binOp],fun _=>by simp[binOp]⟩) (WZ 9999 hu ad n m)
   generalize hx:a.eval x=p at ru;cases ru<;>simp[isNil] at hr
   case dC=>exact sl hx (by simpa using hr)
   case sl=>exact sl hx (by simpa using hr)
   case yG xs _ _ _ _ _ _ _ _ _=>
    cases xs<;>simp[isNil] at hr
    exact sl hx (by simpa using hr)
  ·cases hc
 ·generalize hy:a.eval y=q at rv;cases rv;simp only[MT] at hc;split at hc
  ·rename_i el hu
   have pt:∀{ad:Option Addr},a.eval x=.pointer ad->ad.isNone=e->Ok P X φ w o a (.bool (if ng then !e else e)) H:=by
    intro ad hx he;subst he;exact fin hx hy (by rw[eqGuard_at_pointer]; rfl) (fun _=>⟨by cases ad<;>simp[binOp],fun _=>by cases ad<;>simp[binOp]⟩) (S9 9999 hu ad)
   generalize hx:a.eval x=p at ru;cases ru<;>simp[isNil] at hr
   case fY=>exact pt hx (by simpa using hr)
   case ptr=>exact pt hx (by simpa using hr)
   case dG=>exact pt hx (by simpa using hr)
  ·cases hc
 ·generalize hy:a.eval y=q at rv;cases rv;simp only[MT] at hc;split at hc
  ·rename_i ps rs vr hu;generalize hx:a.eval x=p at ru;cases ru
   case gh=>simp[isNil] at hr; subst hr; exact fin hx hy (by rw[eqGuard_at_nilFunc]; rfl) (fun _=>⟨by simp[binOp],fun _=>by simp[binOp]⟩) (Ta 9999 hu)
   case func f as va bs vb hyy _ _ _ _=>simp[isNil,hyy] at hr; subst hr; exact fin hx hy (by rw[eqGuard_at_func]; rfl) (fun _=>⟨by simp[binOp],fun _=>by simp[binOp]⟩) (W0 9999 hu _ _ _)
   all_goals (simp[isNil,kB] at hr; done)
  ·cases hc
 ·cases hr
theorem anE {op:UnOp} {t:TypeId} {x:Operand} {u r:AV} (fu:o.op=.unOp op t x) (hh:cm X φ w H) (ru:bR (Rd X φ w) φ u (a.eval x)) (hr:WM op u=some r):Ok P X φ w o a r H:=by
 unfold WM at hr;split at hr
 ·have hx:=iD ru;simp at hr; subst hr;exact Ok.quiet (v':=.int _ _) (by simp[execOp,fu,hx,Op.unary,Op.intArith]) (.int _ _ _) hh
 ·have hx:=iD ru;simp at hr; subst hr;exact Ok.quiet (by simp[execOp,fu,hx,Op.unary,intBits_xor]) (.int _ _ _) hh
 ·have hx:=o9 ru;simp at hr; subst hr;exact Ok.quiet (by simp[execOp,fu,hx,Op.unary]) (.bool _ _) hh
 ·cases hr
theorem ama {s d:TypeId} {x:Operand} {k k':IntKind} {n:Int} (fu:o.op=.convert s d x) (hh:cm X φ w H) (hs:(P.underlying s).isSome=true) (hd:P.underlying d=some (.int k)) (ru:bR (Rd X φ w) φ (.int k' n) (a.eval x)) :
  Ok P X φ w o a (.int k (k.wrap n)) H:=by
 have hx:=iD ru;obtain⟨d',hd'⟩:=bf.mp hs;exact Ok.quiet (by simp[execOp,fu,hx,convert,run_underlying hd',run_underlying hd,Conv.intToInt]) (.int _ _ _) hh
theorem alW {fn:Fn} {as bs:Array Operand} {xs ys:List E} (fu:o.op=.makeFunc fn as bs) (hh:cm X φ w H) (he:rH X φ w env a.tmps) (hg:eI c X φ w) (ha:jL as.toList xs=true) (hb:jL bs.toList ys=true) (hy:kB fn=false) :
  Ok P X φ w o a (.func fn (I3 c env xs) (I3 c env ys)) H:=by
 obtain⟨l1,h1⟩:=qx he hg ha;obtain⟨l2,h2⟩:=qx he hg hb;refine Ok.quiet (v':=.func fn (as.map a.eval) (bs.map a.eval)) (by simp[execOp,fu,Instr.makeFunc]) (.func _ _ _ _ _ _ hy (by simp[l1]) (by simp[l2]) (fun i c v hc hv=>h1 i c v hc ?_) (fun i c v hc hv=>h2 i c v hc ?_)) hh
 ·simpa using hv
 ·simpa using hv
theorem alV {t:TypeId} {k:Nat} {zs:List AV} {x y:Operand} {k1 k2:IntKind} {l cp:Int} (fu:o.op=.makeSlice t x y) (hh:cm X φ w H) (hk:jA P t k=true) (hz:jb P t zs=true)
  (rx:bR (Rd X φ w) φ (.int k1 l) (a.eval x)) (ry:bR (Rd X φ w) φ (.int k2 cp) (a.eval y)) (h0:0<=l) (h1:l<=cp) (h2:cp<=(ks:Int)) :
  Ok P X φ w o a (.sl k H.length 0 l.toNat) (H++[some (rep zs l.toNat)]):=by
 obtain⟨e,i,z,hu,hi,wS,hk0,hby,Vr,Wq⟩:=jK hk;simp only[jb,hu] at hz;obtain⟨i',z',xB,NS,dQ,_⟩:=vO (X:=X) (φ:=φ) (w:=w) hz;rw[hi] at xB;simp at xB;subst xB;rw[Vr] at NS;simp at NS;subst NS;have Gr:zs.length=k:=by have:=dQ.1; simp at this; omega
 have hx:=iD rx;have hy:=iD ry;have hL:(ks:Int)=4294967296:=rfl
 have hb:(i.bytes:Int)*cp<=281474976710656:=by
  have h3:(i.bytes:Int)*cp<=1024*4294967296:=Int.mul_le_mul (by omega) (by omega) (by omega) (by omega);omega
 have pI:=run_make (P:=P) w t e i z hu hi Vr k1 k2 l cp h0 h1 hb (by omega);have hlc:l.toNat<=cp.toNat:=by omega
 have Is:l.toNat * k<=cp.toNat * k:=bV _ hlc;have hms:(madeCells z.cells (cp.toNat * i.size)).size=cp.toNat * k:=by rw[size_madeCells,wS]
 obtain⟨q1,q2⟩:=wM hh (w1:=w) (arr:=madeCells z.cells (cp.toNat * i.size)) (e:=e) (cs:=rep zs l.toNat) rfl rfl rfl rfl (by rw[nO,hms,Gr]; exact Is)
  (W6 dQ (m:=cp.toNat * k) (by rw[Wq]; exact Is) hms (fun j hj=>by rw[wS]; simp[madeCells,hj]))
 refine Ok.value (v':=.slice (some ⟨w.heap.size,0,none⟩) l.toNat cp.toNat) ?_ (Ro hh.len hlc (by rw[hms]; exact aJ _)) q1 q2;simp only[execOp,fu,hx,hy,Sem.run_bind,pI,Result.andThen_ok,Sem.run_pure]

theorem ahb {x:AV} {hi n:Nat} (h:bnd x hi=some n):∃k i,x=.int k i/\0<=i/\i<=(hi:Int)/\n=i.toNat:=by
 unfold bnd at h;split at h
 ·rename_i k i;split at h
  ·rename_i hc; simp at h; exact⟨k,i,rfl,hc.1,hc.2,h.symm⟩
  ·cases h
 ·cases h
theorem Ap {x:AV} {len j:Nat} (h:idx x len=some j):∃k i,x=.int k i/\0<=i/\i<(len:Int)/\j=i.toNat/\j<len:=by
 unfold idx at h;split at h
 ·rename_i k i;split at h
  ·rename_i hc; simp at h; exact⟨k,i,rfl,hc.1,hc.2,h.symm,by omega⟩
  ·cases h
 ·cases h
theorem run_sliceBound {k:IntKind} {i:Int} {y:Nat} {cd:BoundsCode} (h0:0<=i) (h1:i<=(y:Int)):(Instr.sliceBound (.int k i) y cd).run P w=.ok i.toNat w:=by
 simp[Instr.sliceBound,asIntOf,h0,h1]
theorem zt (he:rH X φ w env a.tmps) (hg:eI c X φ w) {x:Operand} {y:E} {n m cap:Nat} {cd:BoundsCode} (hx:dj x y=true) (hn:n<=cap) (h:bnd (ev c env y) n=some m) :
  (Instr.sliceBound (a.eval x) cap cd).run P w=.ok m w/\m<=n:=by
 obtain⟨k,i,e1,e2,e3,e4⟩:=ahb h;have r:=cj (a:=a) he hg hx;rw[e1] at r;rw[iD r,e4];exact⟨run_sliceBound e2 (by omega),by omega⟩
theorem Jr (he:rH X φ w env a.tmps) (hg:eI c X φ w) {lo hi:Option Operand} {lo' xB:Option E} {n cap h l:Nat} (hlo:uI lo lo'=true) (hhi:uI hi xB=true) (hn:n<=cap)
  (hh:Fy c env n n xB=some h) (hl:Fy c env 0 h lo'=some l):(Instr.sliceBounds true n cap (lo.map a.eval) (hi.map a.eval) none).run P w=.ok (l,h,cap) w/\l<=h/\h<=n:=by
 cases lo<;>cases lo'<;>simp only[uI] at hlo<;>try (cases hlo; done)
 all_goals
  cases hi<;>cases xB<;>simp only[uI] at hhi<;>try (cases hhi; done)
 all_goals simp only[Fy] at hh hl
 ·simp at hh hl;subst hh; subst hl;exact⟨by simp[Instr.sliceBounds],by omega,aJ _⟩
 ·obtain⟨h1,h2⟩:=zt (P:=P) (cd:=.sliceAcap) he hg hhi hn hh;simp at hl;subst hl;exact⟨by simp[Instr.sliceBounds,h1],by omega,h2⟩
 ·simp at hh;subst hh;obtain⟨h1,h2⟩:=zt (P:=P) (cd:=.sliceB) he hg hlo (aJ _) hl;exact⟨by simp[Instr.sliceBounds,h1],h2,aJ _⟩
 ·obtain⟨h1,h2⟩:=zt (P:=P) (cd:=.sliceAcap) he hg hhi hn hh;obtain⟨h3,h4⟩:=zt (P:=P) (cd:=.sliceB) he hg hlo (aJ _) hl;exact⟨by simp[Instr.sliceBounds,h1,h3],h4,h2⟩
theorem ahE {t e:TypeId} {i:TypeInfo} (hu:P.underlying t=some (.slice e)) (hi:P.info? e=some i) {ad:Option Addr} {n cap l h:Nat} {lo xB:Option Value} (hb:(Instr.sliceBounds true n cap lo xB none).run P w=.ok (l,h,cap) w) :
  (Instr.sliceAt t (.slice ad n cap) lo xB none).run P w=.ok (.slice (if cap=l then ad else ad.map (·.add (l*i.size))) (h-l) (cap-l)) w:=by
 simp only[Instr.sliceAt,Instr.slice,Sem.run_bind,run_underlying hu,Result.andThen_ok,hb,jm hi,Sem.run_pure]
theorem alT {t:TypeId} {k:Nat} {x:Operand} {y:E} {lo hi:Option Operand} {lo' xB:Option E} {v:AV} {H':Heap} {fl:Fp} {call:Nat->List AV->Heap->Option (AV × Heap)} (fu:o.op=.slice t x lo hi none) (hh:cm X φ w H) (he:rH X φ w env a.tmps) (hg:eI c X φ w)
  (hk:jA P t k=true) (hx:dj x y=true) (hlo:uI lo lo'=true) (hhi:uI hi xB=true) (hs:ga c call env H (.Io k y lo' xB)=some (v,H',fl)):Ok P X φ w o a v H':=by
 obtain⟨e,i,z,hu,X5,wS,hk0,hby,Vr,Wq⟩:=jK hk;have r:=cj (a:=a) he hg hx;simp only[ga] at hs;split at hs
 case h_2=>cases hs
 rename_i n hn;split at hs
 case h_2=>cases hs
 rename_i h hhv;split at hs
 case h_2=>cases hs
 rename_i l hlv
 have fin:∀{ad:Option Addr} {cap:Nat},a.eval x=.slice ad n cap->n<=cap->l<=h->h<=n->(l<=h->h<=n->bR (Rd X φ w) φ v (.slice (if cap=l then ad else ad.map (·.add (l*k))) (h-l) (cap-l)))->H'=H->Ok P X φ w o a v H':=by
  intro ad cap Wu hnc _ _ hr hH;obtain⟨h1,h2,h3⟩:=Jr (P:=P) he hg hlo hhi hnc hhv hlv;have:=ahE (P:=P) hu X5 (ad:=ad) h1;rw[wS] at this;subst hH;exact Ok.quiet (by simp only[execOp,fu,Wu,IC,Sem.run_bind,this,Result.andThen_ok,Sem.run_pure]) (hr h2 h3) hh
 have le:∀cap,n<=cap->l<=h/\h<=n:=fun cap hc=>(Jr (P:=P) he hg hlo hhi hc hhv hlv).2;obtain⟨hlh,hhn⟩:=le n (aJ _);generalize hy:ev c env y=yv at hs r hn;cases yv<;>simp only[lenA,af] at hn<;>try (cases hn; done)
 ·subst hn;simp at hs;obtain⟨rfl,rfl,rfl⟩:=hs;generalize Wu:a.eval x=ax at r;cases r;have hh0:h=0:=by omega
  have hl0:l=0:=by omega
  subst hh0; subst hl0;exact fin Wu (aJ _) (aJ _) (aJ _) (fun _ _=>by simp; exact .dC _) rfl
 ·rename_i k' xs;simp only at hs;split at hs
  case isFalse=>cases hs
  rename_i wR;subst wR;simp at hs;obtain⟨rfl,rfl,rfl⟩:=hs;generalize Wu:a.eval x=ax at r;cases r with
  |yG _ _ _ ad n' cap u SC iN hkc hur hr=>
    subst hn;subst SC;refine fin Wu iN hlh hhn (fun _ _=>?_) rfl;have hlen:((xs.take h).drop l).length=h-l:=by simp; omega
    by_cases I0:cap=l
    ·have h0:(xs.take h).drop l=[]:=eL (by omega);rw[if_pos I0,h0];refine .yG _ _ _ _ _ _ u (by simp; omega) (by omega) (by simp) (fun i j x c hx=>by simp at hx) (fun i j x c hx=>by simp at hx)
    ·rw[if_neg I0]
     have get:∀(i:Nat) (x:AV),((xs.take h).drop l)[i]?=some x->xs[l+i]?=some x:=by
      intro i x hx;rw[bk,bT] at hx;split at hx
      ·exact hx
      ·cases hx
     refine .yG _ _ _ _ _ _ (fun i j=>u (l+i) j) hlen.symm (by omega) (fun x hx=>?_) (fun i j x c hx hc=>?_) (fun i j x c hx hc=>hr (l+i) j x c (get i x hx) hc)
     ·obtain⟨i,hi⟩:=bG hx;exact hkc x (bp (get i x hi))
     ·have:=hur (l+i) j x c (get i x hx) hc;rw[Addr.add_add]
      rwa [show l*k'+(i*k'+j)=(l+i)*k'+j by rw[cO]; omega]
  |lJ=>
    simp at hn;subst hn;have hh0:h=0:=by omega
    have hl0:l=0:=by omega
    subst hh0; subst hl0;exact fin Wu (aJ _) (aJ _) (aJ _) (fun _ _=>by simp; exact .lJ _ _) rfl
 ·rename_i k' b off len;simp only at hs;split at hs
  case isFalse=>cases hs
  rename_i wR;subst wR;simp at hs;obtain⟨rfl,rfl,rfl⟩:=hs;subst hn;generalize Wu:a.eval x=ax at r;cases r with
  |sl _ _ _ _ _ ad cap hb hc hp=>
    refine fin Wu hc hlh hhn (fun _ _=>?_) rfl;have e:(if cap=l then (some ad:Option Addr) else Option.map (·.add (l*k')) (some ad))=some (if cap=l then ad else ad.add (l*k')):=by split<;>simp
    rw[e];refine .sl _ _ _ _ _ _ _ hb (by omega) fun g sz hg=>?_;obtain⟨h1,h2⟩:=hp g sz hg;have hmul:l*k'+(cap-l)*k'=cap*k':=by rw[<-cO]; congr 1; omega
    refine⟨fun h0=>?_,by omega⟩;rw[if_neg (by omega),h1 (by omega),Addr.jB]

theorem P9 {cs:List AV} {v:Value} (h:bR (Rd X φ w) φ (.dG cs) v) (n:Nat):∃ad,v=.pointer (some ad)/\bR (Rd X φ w) φ (.dG (cs.drop n)) (.pointer (some (ad.add n))):=by
 cases h with
 |dG _ _ ad u hu h=>
   refine⟨ad,rfl,.dG _ _ _ (fun j=>u (n+j)) (fun j c hc=>?_) (fun j c hc=>?_)⟩
   ·rw[bk] at hc;rw[Addr.add_add];exact hu _ _ hc
   ·rw[bk] at hc;exact h _ _ hc
theorem aaW {b off:Nat} {v:Value} (h:bR (Rd X φ w) φ (.ptr b off) v) (n:Nat):∃ad,v=.pointer (some ad)/\bR (Rd X φ w) φ (.ptr b (off+n)) (.pointer (some (ad.add n))):=by
 cases h with
 |ptr _ _ _ ad hb h=>
   refine⟨ad,rfl,.ptr _ _ _ _ hb fun g sz hg=>?_⟩;obtain⟨rfl,h0⟩:=h g sz hg;exact⟨by rw[Addr.jB],h0⟩

theorem adX (he:rH X φ w env a.tmps) (hg:eI c X φ w) {hi:Option Operand} {xB:Option E} {n h:Nat} (hhi:uI hi xB=true) (hh:Fy c env n n xB=some h):(Instr.sliceBounds false n n none (hi.map a.eval) none).run P w=.ok (0,h,n) w/\h<=n:=by
 cases hi<;>cases xB<;>simp only[uI] at hhi<;>try (cases hhi; done)
 all_goals simp only[Fy] at hh
 ·simp at hh;subst hh;exact⟨by simp[Instr.sliceBounds],aJ _⟩
 ·obtain⟨h1,h2⟩:=zt (P:=P) (cd:=.sliceAlen) he hg hhi (aJ _) hh;exact⟨by simp[Instr.sliceBounds,h1],h2⟩
theorem ame {t:TypeId} {n:Nat} {x:Operand} {y:E} {hi:Option Operand} {xB:Option E} {v:AV} {H':Heap} {fl:Fp} {call:Nat->List AV->Heap->Option (AV × Heap)} (fu:o.op=.slice t x none hi none) (hh:cm X φ w H) (he:rH X φ w env a.tmps) (hg:eI c X φ w) (hhi:uI hi xB=true) (r:bR (Rd X φ w) φ (ev c env y) (a.eval x))
  (hk:(match P.underlying t with
  |some (.array n' e)=>decide (n=n')&&qf P e 1
  |_=>false)=true) (hs:ga c call env H (.Of n y xB)=some (v,H',fl)):Ok P X φ w o a v H':=by
 split at hk
 case h_2=>cases hk
 rename_i n' e hu;simp only[ae,decide_eq_true_eq] at hk;obtain⟨rfl,pH⟩:=hk;unfold qf at pH;split at pH
 case h_2=>cases pH
 rename_i i X5;simp only[ga] at hs;split at hs
 case h_2=>cases hs
 rename_i m hm;obtain⟨bd,FF⟩:=adX (P:=P) he hg hhi hm;split at hs
 case h_3=>cases hs
 case h_2=>
  rename_i b off hy;split at hs
  case h_2=>cases hs
  rename_i cs hb;split at hs
  case isFalse=>cases hs
  rename_i hc;simp at hs;obtain⟨rfl,rfl,rfl⟩:=hs;rw[hy] at r;generalize Wu:a.eval x=ax at r;cases r with
  |ptr _ _ _ ad QB hp=>
    have e0:(if n=0 then ad else ad.add (0*i.size))=ad:=by
     split
     ·rfl
     ·simp[Addr.add]
    have run:(execOp a.eval o).run P w=.ok (.value (.slice (some ad) m n)) w:=by
     simp only[execOp,fu,Wu,IC,Instr.sliceAt,Instr.sureAddr,Sem.run_bind,run_underlying hu,Result.andThen_ok,bd,jm X5,Sem.run_pure,e0,Wz]
    refine Ok.quiet run ?_ hh;obtain⟨g,sz,arr,e,h1,h2,h3,h4,_⟩:=hh.cat hb fun g sz hg=>(hp g sz hg).2;refine .sl _ _ _ _ _ _ _ QB FF fun g' pX hg=>?_;rw[h1] at hg;simp only[af,aF] at hg;obtain⟨rfl,rfl⟩:=hg;exact⟨fun _=>(hp _ _ h1).1,by omega⟩
 rename_i cs hy;split at hs
 case isFalse=>cases hs
 rename_i hc;obtain⟨Wt,rfl,I1⟩:=hc;have hc:m<=cs.length/\bF (cs.take m)=true:=⟨Wt,I1⟩;simp at hs;obtain⟨rfl,rfl,rfl⟩:=hs;rw[hy] at r;generalize Wu:a.eval x=ax at r;cases r with
 |dG _ _ ad u NU hr=>
   have e0:(if m=0 then ad else ad.add (0*i.size))=ad:=by
    split
    ·rfl
    ·simp[Addr.add]
   have run:(execOp a.eval o).run P w=.ok (.value (.slice (some ad) m m)) w:=by
    simp only[execOp,fu,Wu,IC,Instr.sliceAt,Instr.sureAddr,Sem.run_bind,run_underlying hu,Result.andThen_ok,bd,jm X5,Sem.run_pure,e0,Wz]
   refine Ok.quiet run ?_ hh
   have get:∀{k:Nat} {c:AV},(cs.take m)[k]?=some c->cs[k]?=some c/\c.leaf=true:=by
    intro k c h;refine⟨?_,AK hc.2 k c h⟩;rw[bT] at h;split at h
    ·exact h
    ·cases h
   have one:∀{c:AV},c.leaf=true->c.cells=[c]:=by
    intro c h;cases c<;>simp[AV.leaf] at h<;>rfl
   refine .yG _ 1 _ ad m m (fun k _=>u k) (by simp; omega) (aJ _) (fun c hm=>?_) (fun k j c d h1 h2=>?_) (fun k j c d h1 h2=>?_)
   ·obtain⟨k,hk⟩:=bG hm;rw[one (get hk).2]; rfl
   ·rw[one (get h1).2] at h2;cases j with
    |zero=>simp at h2; subst h2; simpa using NU k c (get h1).1
    |succ j=>simp at h2
   ·rw[one (get h1).2] at h2;cases j with
    |zero=>simp at h2; subst h2; exact hr k c (get h1).1
    |succ j=>simp at h2
theorem al7 {s:TypeId} {f off:Nat} {x:Operand} {y:E} {v:AV} {H':Heap} {fl:Fp} {call:Nat->List AV->Heap->Option (AV × Heap)} (fu:o.op=.fieldAddr s x f) (hh:cm X φ w H) (r:bR (Rd X φ w) φ (ev c env y) (a.eval x))
  (hk:(match P.underlying s with
  |some (.struct fs)=>match fs[f]? with
    |some fd=>decide (fd.offset=off)&&(match P.info? fd.type with
      |some i=>decide (i.size≠0)
      |none=>false)
    |none=>false
  |_=>false)=true) (hs:ga c call env H (.vL off y)=some (v,H',fl)):Ok P X φ w o a v H':=by
 split at hk
 case h_2=>cases hk
 rename_i fs hu;split at hk
 case h_2=>cases hk
 rename_i fd hf;simp only[ae,decide_eq_true_eq] at hk;obtain⟨RL,pH⟩:=hk;split at pH
 case h_2=>cases pH
 rename_i i hi;have hsz':¬i.size=0:=by simpa using pH
 have run:∀{ad:Addr},a.eval x=.pointer (some ad)->(execOp a.eval o).run P w=.ok (.value (.pointer (some (ad.add off)))) w:=by
  intro ad hx;simp only[execOp,fu,hx,Instr.fieldAt,Sem.run_bind,run_underlying hu,Result.andThen_ok,hf,Instr.sureAddr,Sem.run_pure,fieldPlace,jm hi,hsz',if_false,RL]
 simp only[ga] at hs;split at hs
 ·rename_i b off' hy;simp at hs;obtain⟨rfl,rfl,rfl⟩:=hs;rw[hy] at r;obtain⟨ad,h1,h2⟩:=aaW r off;exact Ok.quiet (run h1) h2 hh
 ·rename_i cs hy;simp at hs;obtain⟨rfl,rfl,rfl⟩:=hs;rw[hy] at r;obtain⟨ad,h1,h2⟩:=P9 r off;exact Ok.quiet (run h1) h2 hh
 ·cases hs
theorem al6 {s:TypeId} {f off:Nat} {ag:Option Nat} {x:Operand} {y:E} {v:AV} {H':Heap} {fl:Fp} {call:Nat->List AV->Heap->Option (AV × Heap)} (fu:o.op=.field s x f) (hh:cm X φ w H) (r:bR (Rd X φ w) φ (ev c env y) (a.eval x))
  (hk:(match P.underlying s with
  |some (.struct fs)=>match fs[f]? with
    |some fd=>decide (fd.offset=off)&&decide (nA P fd.type=some ag)
    |none=>false
  |_=>false)=true) (hs:ga c call env H (.fld off ag y)=some (v,H',fl)):Ok P X φ w o a v H':=by
 split at hk
 case h_2=>cases hk
 rename_i fs hu;split at hk
 case h_2=>cases hk
 rename_i fd hf;simp only[ae,decide_eq_true_eq] at hk;obtain⟨RL,Ff⟩:=hk;simp only[ga] at hs;split at hs
 case h_2=>cases hs
 rename_i cs hy;split at hs
 case h_2=>cases hs
 rename_i u NU;simp at hs;obtain⟨rfl,rfl,rfl⟩:=hs;rw[hy] at r;generalize hx:a.eval x=ax at r;cases r with
 |agg _ _ vs hl hr=>
   obtain⟨v',h1,h2⟩:=aa6 Ff hl hr NU;refine Ok.quiet ?_ h2 hh;simp only[execOp,fu,hx,Instr.field,Sem.run_bind,run_underlying hu,Result.andThen_ok,hf,asAgg,Sem.run_pure,RL,h1]
theorem Zh {t e:TypeId} {i:TypeInfo} (hu:P.underlying t=some (.slice e)) (hi:P.info? e=some i) {ad:Addr} {n cap:Nat} {k:IntKind} {j:Int} (h0:0<=j) (h1:j<(n:Int)) :
  (Instr.indexAt t (.slice (some ad) n cap) (.int k j)).run P w=.ok (.pointer (some (ad.add (j.toNat * i.size)))) w:=by
 simp[Instr.indexAt,asIntOf,run_underlying hu,h0,h1,jm hi]
theorem ahF {t e:TypeId} {i:TypeInfo} {n:Nat} (hu:P.underlying t=some (.array n e)) (hi:P.info? e=some i) {ad:Addr} {k:IntKind} {j:Int} (h0:0<=j) (h1:j<(n:Int)) :
  (Instr.indexAt t (.pointer (some ad)) (.int k j)).run P w=.ok (.pointer (some (ad.add (j.toNat * i.size)))) w:=by
 simp[Instr.indexAt,asIntOf,Instr.sureAddr,run_underlying hu,h0,h1,jm hi]
theorem al4 {t:TypeId} {k:Nat} {x xi:Operand} {y yi:E} {v:AV} {H':Heap} {fl:Fp} {call:Nat->List AV->Heap->Option (AV × Heap)} (fu:o.op=.indexAddr t x xi) (hh:cm X φ w H) (r:bR (Rd X φ w) φ (ev c env y) (a.eval x))
  (ri:bR (Rd X φ w) φ (ev c env yi) (a.eval xi)) (hk:jA P t k=true) (hs:ga c call env H (.ti k y yi)=some (v,H',fl)):Ok P X φ w o a v H':=by
 obtain⟨e,i,z,hu,X5,wS,hk0,hby,Vr,Wq⟩:=jK hk;simp only[ga] at hs;split at hs
 ·rename_i k' xs hy;split at hs
  case h_2=>cases hs
  rename_i j hj;obtain⟨kk,ii,e1,e2,e3,e4,e5⟩:=Ap hj;split at hs
  case isFalse=>cases hs
  rename_i wR;subst wR;split at hs
  case h_2=>cases hs
  rename_i el hel;simp at hs;obtain⟨rfl,rfl,rfl⟩:=hs;rw[e1] at ri;have hxi:=iD ri;rw[hy] at r;generalize hx:a.eval x=ax at r;cases r with
  |yG _ _ _ ad n cap u hn iN hkc hur hr=>
    have pI:=Zh (P:=P) (w:=w) hu X5 (ad:=ad) (n:=n) (cap:=cap) (k:=kk) e2 (by omega);refine Ok.quiet (v':=.pointer (some (ad.add (ii.toNat * i.size)))) (by simp only[execOp,fu,hx,hxi,Sem.run_bind,pI,Result.andThen_ok,Sem.run_pure]) (.dG _ _ _ (fun m=>u j m) (fun m c hc=>?_) (fun m c hc=>hr j m el c hel hc)) hh;rw[Addr.add_add,wS,<-e4];exact hur j m el c hel hc
  |lJ=>simp at hel
 ·rename_i k' b off len hy;split at hs
  case h_2=>cases hs
  rename_i j hj;obtain⟨kk,ii,e1,e2,e3,e4,e5⟩:=Ap hj;split at hs
  case isFalse=>cases hs
  rename_i wR;subst wR;simp at hs;obtain⟨rfl,rfl,rfl⟩:=hs;rw[e1] at ri;have hxi:=iD ri;rw[hy] at r;generalize hx:a.eval x=ax at r;cases r with
  |sl _ _ _ _ _ ad cap hb hc hp=>
    have pI:=Zh (P:=P) (w:=w) hu X5 (ad:=ad) (n:=len) (cap:=cap) (k:=kk) e2 (by omega);refine Ok.quiet (v':=.pointer (some (ad.add (ii.toNat * i.size)))) (by simp only[execOp,fu,hx,hxi,Sem.run_bind,pI,Result.andThen_ok,Sem.run_pure]) (.ptr _ _ _ _ hb fun g sz hg=>?_) hh;obtain⟨q1,q2⟩:=hp g sz hg;exact⟨by rw[q1 (by omega),Addr.jB,wS,e4],by omega⟩
 ·cases hs
theorem al3 {t:TypeId} {n k:Nat} {x xi:Operand} {y yi:E} {v:AV} {H':Heap} {fl:Fp} {call:Nat->List AV->Heap->Option (AV × Heap)} (fu:o.op=.indexAddr t x xi) (hh:cm X φ w H) (r:bR (Rd X φ w) φ (ev c env y) (a.eval x))
  (ri:bR (Rd X φ w) φ (ev c env yi) (a.eval xi)) (hk:(match P.underlying t with
  |some (.array n' e)=>decide (n=n')&&qf P e k
  |_=>false)=true) (hs:ga c call env H (.wC n k y yi)=some (v,H',fl)):Ok P X φ w o a v H':=by
 split at hk
 case h_2=>cases hk
 rename_i n' e hu;simp only[ae,decide_eq_true_eq] at hk;obtain⟨rfl,pH⟩:=hk;unfold qf at pH;split at pH
 case h_2=>cases pH
 rename_i i hi;have wS:i.size=k:=by simpa using pH
 simp only[ga] at hs;split at hs
 case h_2=>cases hs
 rename_i j hj;obtain⟨kk,ii,e1,e2,e3,e4,e5⟩:=Ap hj;rw[e1] at ri;have hxi:=iD ri
 have run:∀{ad:Addr},a.eval x=.pointer (some ad)->(execOp a.eval o).run P w=.ok (.value (.pointer (some (ad.add (j*k))))) w:=by
  intro ad hx;have pI:=ahF (P:=P) (w:=w) hu hi (ad:=ad) (k:=kk) e2 e3;simp only[execOp,fu,hx,hxi,Sem.run_bind,pI,Result.andThen_ok,Sem.run_pure,wS,e4]
 split at hs
 ·rename_i b off hy;simp at hs;obtain⟨rfl,rfl,rfl⟩:=hs;rw[hy] at r;obtain⟨ad,h1,h2⟩:=aaW r (j*k);exact Ok.quiet (run h1) h2 hh
 ·rename_i cs hy;simp at hs;obtain⟨rfl,rfl,rfl⟩:=hs;rw[hy] at r;obtain⟨ad,h1,h2⟩:=P9 r (j*k);exact Ok.quiet (run h1) h2 hh
 ·cases hs
theorem anG {t:TypeId} {n k:Nat} {ag:Option Nat} {x xi:Operand} {y yi:E} {v:AV} {H':Heap} {fl:Fp} {call:Nat->List AV->Heap->Option (AV × Heap)} (fu:o.op=.index t x xi) (hh:cm X φ w H) (r:bR (Rd X φ w) φ (ev c env y) (a.eval x))
  (ri:bR (Rd X φ w) φ (ev c env yi) (a.eval xi)) (hk:(match P.underlying t with
  |some (.array n' e)=>decide (n=n')&&qf P e k&&decide (nA P e=some ag)
  |_=>false)=true) (hs:ga c call env H (.ix n k ag y yi)=some (v,H',fl)):Ok P X φ w o a v H':=by
 split at hk
 case h_2=>cases hk
 rename_i n' e hu;simp only[ae,decide_eq_true_eq] at hk;obtain⟨⟨rfl,pH⟩,Ff⟩:=hk;unfold qf at pH;split at pH
 case h_2=>cases pH
 rename_i i hi;have wS:i.size=k:=by simpa using pH
 simp only[ga] at hs;split at hs
 case h_2=>cases hs
 rename_i j hj;obtain⟨kk,ii,e1,e2,e3,e4,e5⟩:=Ap hj;rw[e1] at ri;have hxi:=iD ri;split at hs
 case h_2=>cases hs
 rename_i cs hy;split at hs
 case h_2=>cases hs
 rename_i u NU;simp at hs;obtain⟨rfl,rfl,rfl⟩:=hs;rw[hy] at r;generalize hx:a.eval x=ax at r;cases r with
 |agg _ _ vs hl hr=>
   obtain⟨v',h1,h2⟩:=aa6 Ff hl hr NU;refine Ok.quiet ?_ h2 hh;rw[e4] at h1;simp only[execOp,fu,hx,hxi,Instr.index,asIntOf,Sem.run_bind,Sem.run_pure,run_underlying hu,Result.andThen_ok,e2,e3,and_self,if_true,jm hi,wS,h1]
theorem al8 {x:Operand} {i:Nat} {vs:List AV} {v:AV} (fu:o.op=.extract x i) (hh:cm X φ w H) (r:bR (Rd X φ w) φ (.dR vs) (a.eval x)) (hv:vs[i]?=some v):Ok P X φ w o a v H:=by
 generalize hx:a.eval x=ax at r;cases r with
 |dR _ _ us hl hr=>
   obtain⟨u,hu⟩:=cc (l:=us) (i:=i) (by have:=az hv; omega);exact Ok.quiet (by simp only[execOp,fu,hx,Instr.extract,hu,Sem.run_bind,Sem.run_pure,Result.andThen_ok]) (hr i v u hv hu) hh
theorem afp {x:Operand} {y:E} {v:AV} {H':Heap} {fl:Fp} {call:Nat->List AV->Heap->Option (AV × Heap)} (fu:o.op=.nilCheck x) (hh:cm X φ w H) (r:bR (Rd X φ w) φ (ev c env y) (a.eval x))
  (hs:ga c call env H (.pD y)=some (v,H',fl)):Ok P X φ w o a v H':=by
 simp only[ga] at hs;split at hs
 ·rename_i b off hy;simp at hs;obtain⟨rfl,rfl,rfl⟩:=hs;rw[hy] at r;generalize hx:a.eval x=ax at r;have r':=r;cases r;exact Ok.quiet (by simp only[execOp,fu,hx,Sem.run_pure]) r' hh
 ·rename_i cs hy;simp at hs;obtain⟨rfl,rfl,rfl⟩:=hs;rw[hy] at r;generalize hx:a.eval x=ax at r;have r':=r;cases r;exact Ok.quiet (by simp only[execOp,fu,hx,Sem.run_pure]) r' hh
 ·rename_i f as bs hy;simp at hs;obtain⟨rfl,rfl,rfl⟩:=hs;rw[hy] at r;generalize hx:a.eval x=ax at r;have r':=r;cases r;exact Ok.quiet (by simp only[execOp,fu,hx,Sem.run_pure]) r' hh
 ·cases hs
theorem alY {ca:Call} {x:Operand} {t:TypeId} {y:E} {v:AV} {H':Heap} {fl:Fp} {call:Nat->List AV->Heap->Option (AV × Heap)} (fu:o.op=.call ca) (H6:ca.callee=.builtin .len) (pK:ca.args=#[x]) (IZ:ca.argTypes=#[t]) (hh:cm X φ w H)
  (r:bR (Rd X φ w) φ (ev c env y) (a.eval x)) (iZ:isSlice P t=true) (hs:ga c call env H (.len y)=some (v,H',fl)):Ok P X φ w o a v H':=by
 unfold isSlice at iZ;split at iZ
 case h_2=>cases iZ
 rename_i e hu
 have run:∀{ad:Option Addr} {n cap:Nat},a.eval x=.slice ad n cap->(execOp a.eval o).run P w=.ok (.value (.int .i64 n)) w:=by
  intro ad n cap hx;simp[execOp,fu,resolve,H6,pK,IZ,invoke,builtin,hx,Builtin.len_,run_underlying hu,goInt]
 simp only[ga] at hs;split at hs
 case h_2=>cases hs
 rename_i n hn;simp at hs;obtain⟨rfl,rfl,rfl⟩:=hs;generalize hy:ev c env y=yv at r hn;generalize hx:a.eval x=ax at r;cases yv<;>simp only[lenA,af] at hn<;>try (cases hn; done)
 ·subst hn;cases r;exact Ok.quiet (run hx) (.int _ _ _) hh
 ·cases r with
  |yG _ _ _ ad m cap u hm=>
    subst hm; subst hn;exact Ok.quiet (run hx) (.int _ _ _) hh
  |lJ=>simp at hn; subst hn; exact Ok.quiet (run hx) (.int _ _ _) hh
 ·subst hn;cases r;exact Ok.quiet (run hx) (.int _ _ _) hh
theorem S8 (mx:Bool):∀(xs:List AV) (vs:List Value) (k:IntKind) (n:Int) (r:AV),Dk mx (.int k n) xs=some r->xs.length=vs.length->(∀(i:Nat) (c:AV) (v:Value),xs[i]?=some c->vs[i]?=some v->bR (Rd X φ w) φ c v) ->
  ∃ v,(vs.foldlM (if mx then Builtin.max2 else Builtin.min2) (.int k n)).run P w=.ok v w/\∀ R ψ,bR R ψ r v
 |[],[],k,n,r,h,_,_=>by simp[Dk] at h; subst h; exact⟨_,rfl,fun _ _=>.int _ _ _⟩
 |[],_::_,_,_,_,_,hl,_=>by simp at hl
 |_::_,[],_,_,_,_,hl,_=>by simp at hl
 |x::xs,v::vs,k,n,r,h,hl,hr=>by
   cases x<;>simp only[Dk] at h<;>try (cases h; done)
   rename_i k' m;obtain rfl:=iD (hr 0 _ v rfl rfl);obtain⟨v',h1,h2⟩:=S8 mx xs vs k _ r h (by simpa using hl) (fun i c u hc hu=>hr (i+1) c u (by simpa using hc) (by simpa using hu));refine⟨v',?_,h2⟩;cases mx
   ·simp only[bH,if_false] at h1 ⊢;simp only[List.foldlM_cons,Builtin.min2,Sem.run_bind,Sem.run_pure,Result.andThen_ok];exact h1
   ·simp only[if_true] at h1 ⊢;simp only[List.foldlM_cons,Builtin.max2,Sem.run_bind,Sem.run_pure,Result.andThen_ok];exact h1
theorem afs {mx:Bool} {ca:Call} {ys:List E} {v:AV} (fu:o.op=.call ca) (H6:ca.callee=.builtin (if mx then .max else .min)) (hh:cm X φ w H) (he:rH X φ w env a.tmps) (hg:eI c X φ w)
  (pK:jL ca.args.toList ys=true) (hm:BO mx (I3 c env ys)=some v):Ok P X φ w o a v H:=by
 obtain⟨hl,hr⟩:=qx he hg pK;generalize hxs:I3 c env ys=xs at hm hl hr;have SA:(ca.args.map a.eval).toList=ca.args.toList.map a.eval:=by simp
 cases xs with
 |nil=>simp[BO] at hm
 |cons x xs=>
   cases x<;>simp only[BO] at hm<;>try (cases hm; done)
   rename_i k n;cases hav:ca.args.toList.map a.eval with
   |nil=>have:=congrArg List.length hav; simp at this hl; rw[this] at hl; simp at hl
   |cons u us=>
     rw[hav] at hr;obtain rfl:=iD (hr 0 _ u rfl rfl);obtain⟨v',h1,h2⟩:=S8 (P:=P) mx xs us k n v hm (by have:=congrArg List.length hav; simp at this hl; omega) (fun i c w' hc hw=>hr (i+1) c w' (by simpa using hc) (by simpa using hw));refine Ok.quiet (v':=v') ?_ (h2 _ _) hh;cases mx
     ·simp only[bH,if_false] at h1 H6;simp only[execOp,fu,resolve,H6,invoke,builtin,Builtin.min_,SA,hav,Sem.run_bind,Sem.run_pure,Result.andThen_ok,h1]
     ·simp only[if_true] at h1 H6;simp only[execOp,fu,resolve,H6,invoke,builtin,Builtin.max_,SA,hav,Sem.run_bind,Sem.run_pure,Result.andThen_ok,h1]
theorem al0 {t:TypeId} {s:ByteArray} {tab:List Nat} {xi:Operand} {yi:E} {v:AV} {H':Heap} {fl:Fp} {call:Nat->List AV->Heap->Option (AV × Heap)} (fu:o.op=.index t (.const (.string s)) xi) (hh:cm X φ w H)
  (ri:bR (Rd X φ w) φ (ev c env yi) (a.eval xi)) (hu:(match P.underlying t with
  |some .string=>true
  |_=>false)=true) (htab:s.data.toList.map (·.toNat)=tab) (hs:ga c call env H (.ixs tab yi)=some (v,H',fl)):Ok P X φ w o a v H':=by
 split at hu
 case h_2=>cases hu
 rename_i hu0;clear hu;simp only[ga] at hs;split at hs
 case h_2=>cases hs
 rename_i j hj;obtain⟨kk,ii,e1,e2,e3,e4,e5⟩:=Ap hj;rw[e1] at ri;have hxi:=iD ri;split at hs
 case h_2=>cases hs
 rename_i u NU;simp at hs;obtain⟨rfl,rfl,rfl⟩:=hs;subst htab
 have bE:j<s.size:=by
  have h1:s.data.size=s.size:=rfl;have h2:=e5;simp at h2;omega
 have hsj:s[j]?=some s[j]:=getElem?_pos s j bE
 have hu2:s[j].toNat=u:=by
  rw[cu] at NU
  have:s.data.toList[j]?=some s[j]:=by
   rw[fo];exact mS bE
  rw[this] at NU;simpa using NU
 refine Ok.quiet (v':=.int .u8 u) ?_ (.int _ _ _) hh;subst e4;have dQ:a.eval (.const (.string s))=.string s:=rfl;simp only[execOp,fu,dQ,hxi,Instr.index,asIntOf,Sem.run_bind,Sem.run_pure,run_underlying hu0,Result.andThen_ok,e2,if_true,hsj,hu2]
theorem amb {ca:Call} {x:Operand} {t:TypeId} {k:Nat} {zs:List AV} {y:E} {v:AV} {H':Heap} {fl:Fp} {call:Nat->List AV->Heap->Option (AV × Heap)} (fu:o.op=.call ca) (H6:ca.callee=.builtin .clear) (pK:ca.args=#[x]) (IZ:ca.argTypes=#[t]) (hh:cm X φ w H)
  (r:bR (Rd X φ w) φ (ev c env y) (a.eval x)) (hk:jA P t k=true) (hz:jb P t zs=true) (hs:ga c call env H (.Rg k zs y)=some (v,H',fl)):Ok P X φ w o a v H':=by
 obtain⟨e,i,z,hu,hi,wS,hk0,hby,Vr,Wq⟩:=jK hk;simp only[jb,hu] at hz;obtain⟨i',z',xB,NS,dQ,Bo⟩:=vO (X:=X) (φ:=φ) (w:=w) hz;rw[hi] at xB;simp at xB;subst xB;rw[Vr] at NS;simp at NS;subst NS;have Gr:zs.length=k:=by have:=dQ.1; simp at this; omega
 have run0:∀{ad:Option Addr} {cap:Nat},a.eval x=.slice ad 0 cap->(execOp a.eval o).run P w=.ok (.value (.tuple #[])) w:=by
  intro ad cap hx;cases ad<;>simp[execOp,fu,resolve,H6,pK,IZ,invoke,builtin,hx,Builtin.clear_,run_underlying hu]
 simp only[ga] at hs;split at hs
 ·rename_i hy;simp at hs;obtain⟨rfl,rfl,rfl⟩:=hs;rw[hy] at r;generalize hx:a.eval x=ax at r;cases r;exact Ok.quiet (run0 hx) (.undef _) hh
 ·rename_i k' hy;simp at hs;obtain⟨rfl,rfl,rfl⟩:=hs;rw[hy] at r;generalize hx:a.eval x=ax at r;cases r with
  |yG _ _ _ ad n cap u hn=>simp at hn; subst hn; exact Ok.quiet (run0 hx) (.undef _) hh
  |lJ=>exact Ok.quiet (run0 hx) (.undef _) hh
 ·rename_i k' b off len hy;rw[hy] at r;split at hs
  ·rename_i h0;subst h0;simp at hs;obtain⟨rfl,rfl,rfl⟩:=hs;generalize hx:a.eval x=ax at r;cases r;exact Ok.quiet (run0 hx) (.undef _) hh
  ·rename_i h0;split at hs
   case h_2=>cases hs
   rename_i cs hb;split at hs
   case isFalse=>cases hs
   rename_i hc;obtain⟨rfl,rq⟩:=hc;simp at hs;obtain⟨rfl,rfl,rfl⟩:=hs;generalize hx:a.eval x=ax at r;cases r with
   |sl _ _ _ _ _ ad cap QB iN hp=>
     obtain⟨g,sz,arr,e2,h1,h2,h3,h4,h5,h6⟩:=hh.cat hb fun g sz hg=>by have:=(hp g sz hg).2; omega
     have aod:=(hp g sz h1).2;have an0:0<cap:=by omega
     obtain rfl:=(hp g sz h1).1 an0
     have rp:bR (Rd X φ w) φ (.ptr b off) (.pointer (some ⟨g,off,none⟩)):=.ptr _ _ _ _ QB fun g' pX RP=>by
      rw[h1] at RP;simp at RP;obtain⟨rfl,rfl⟩:=RP;exact⟨rfl,by omega⟩
     have hcz:Cs X φ w (rep zs len) (Builtin.zeroCells z.cells len).toList:=by
      refine⟨by rw[nO,Gr]; simp[Builtin.zeroCells,Wq],fun j c v hc hv=>?_⟩;obtain⟨u,q1,q2⟩:=W6 dQ (n:=len) (m:=len*k') (by rw[Wq]; omega) (arr:=Builtin.zeroCells z.cells len) (by simp[Builtin.zeroCells,Wq]) (fun i hi=>by simp[Builtin.zeroCells,Wq,hi]) j c hc;rw[fo,q1] at hv;simp at hv;subst hv;exact q2
     obtain⟨g',w',e1,NV,q1,q2⟩:=I8 (P:=P) hh hb rp hcz (hcz.vd (aeb Bo len)) (by rw[nO,Gr]; exact rq);simp at e1;subst e1;refine Ok.value (v':=.tuple #[]) ?_ (.undef _) q1 q2;cases len with
     |zero=>exact absurd rfl h0
     |succ m=>simp[execOp,fu,resolve,H6,pK,IZ,invoke,builtin,hx,Builtin.clear_,run_underlying hu,tR hi Vr,NV]
 ·cases hs
end
end Go.Am

/- append; calls. -/
namespace Go.Am
section
variable {P:Program} {c:eS} {X:Nat->Prop} {φ:dx} {w:World} {env:Env} {H:Heap} {a:Act} {o:Oper}

theorem fK {k:Nat}:∀{xs:List AV},(∀x∈xs,x.cells.length=k)->(aC xs).length=xs.length*k /\
  ∀ (p:Nat) (c:AV),(aC xs)[p]?=some c->∃i x j,xs[i]?=some x/\x.cells[j]?=some c/\p=i*k+j
 |[],_=>⟨by simp[aC],fun p c h=>by simp[aC] at h⟩
 |x::r,h=>by
   obtain⟨hl,hm⟩:=fK (xs:=r) fun y hy=>h y (by simp[hy]);have hx:=h x (by simp);refine⟨by simp[aC,hl,hx,cO]; omega,fun p c hc=>?_⟩;rw[aC] at hc;by_cases hp:p<x.cells.length
   ·rw[aA hp] at hc;exact⟨0,x,p,rfl,hc,by omega⟩
   ·rw[aL (by omega)] at hc;obtain⟨i,y,j,h1,h2,h3⟩:=hm _ c hc;exact⟨i+1,y,j,by simpa using h1,h2,by rw[cO]; omega⟩
theorem B3 (hh:cm X φ w H) {k m:Nat} {x:AV} {news:List AV} {v:Value} (h:jQ H k x=some (news,m)) (r:bR (Rd X φ w) φ x v) :
  ∃ ao cap vs,v=.slice ao m cap/\vs.length=m*k/\Cs X φ w news vs/\(∀ad,ao=some ad->∀(j:Nat) (u:Value),vs[j]?=some u->w.cell? (ad.add j)=some u)/\(ao=none->m=0):=by
 have fin:∀{ad:Addr} {cap:Nat} {cs:List AV},SJ X φ w cs ad->cs.length=m*k->cs=news->v=.slice (some ad) m cap ->
   ∃ ao cap vs,v=.slice ao m cap/\vs.length=m*k/\Cs X φ w news vs/\(∀ad,ao=some ad->∀(j:Nat) (u:Value),vs[j]?=some u->w.cell? (ad.add j)=some u)/\(ao=none->m=0):=by
  intro ad cap cs hp hl hn hv;obtain⟨vs,h1,h2,h3⟩:=hp.values cs.length (aJ _);subst hn;refine⟨some ad,cap,vs,hv,by omega,⟨h1.symm,fun i c u hc hu=>h3 i c u (by simpa using hc) hu⟩,fun ad' h=>?_,fun h=>by cases h⟩;cases h;exact h2
 cases x<;>simp only[jQ] at h<;>try (cases h; done)
 ·simp at h;obtain⟨rfl,rfl⟩:=h;cases r;exact⟨none,0,[],rfl,by simp,⟨rfl,fun i c u hc=>by simp at hc⟩,(fun ad h=>by cases h),fun _=>rfl⟩
 ·rename_i k' xs;split at h
  ·rename_i hk;subst hk;simp at h;obtain⟨rfl,rfl⟩:=h;cases r with
   |yG _ _ _ ad n cap u hn iN hkc hur hr=>
     obtain⟨hl,hm⟩:=fK hkc;subst hn;refine fin (ad:=ad) (cap:=cap) (fun p c hc=>?_) hl rfl rfl;obtain⟨i,y,j,h1,h2,rfl⟩:=hm p c hc;exact⟨u i j,(hur i j y c h1 h2).2.2,(hr i j y c h1 h2).HV φ⟩
   |lJ=>exact⟨none,0,[],rfl,by simp,⟨rfl,fun i c u hc=>by simp[aC] at hc⟩,(fun ad h=>by cases h),fun _=>rfl⟩
  ·cases h
 ·rename_i k' b off len;split at h
  case h_2=>cases h
  rename_i cs dQ;split at h
  case isFalse=>cases h
  rename_i hc;obtain⟨rfl,rq⟩:=hc;simp at h;obtain⟨rfl,rfl⟩:=h;cases r with
  |sl _ _ _ _ _ ad cap hb hc hp=>
    obtain⟨g,sz,arr,e,h1,h2,h3,h4,h5,h6⟩:=hh.cat dQ fun g sz hg=>by have:=(hp g sz hg).2; omega
    by_cases h0:len=0
    ·subst h0;exact⟨some ad,cap,[],rfl,by simp,⟨by simp,fun i c u hc=>by simp at hc⟩,(fun _ _ j u hu=>by simp at hu),(fun h=>by cases h)⟩
    ·obtain rfl:=(hp g sz h1).1 (by omega);refine fin (ad:=⟨g,off,none⟩) (cap:=cap) (cs:=(cs.drop off).take (len*k')) (fun p c hc=>?_) (by simp; omega) rfl rfl;rw[bT] at hc;split at hc
     ·rw[bk] at hc;obtain⟨u,hu,r⟩:=h6 _ _ hc;exact⟨u,by rw[Addr.jB,gE h2]; exact hu,r⟩
     ·cases hc

theorem FL {t ty e e2:TypeId} {i:TypeInfo} (ht:P.underlying t=some (.slice e)) (hi:P.info? e=some i)
  {g WW sCap:Nat} {cur:Array Value} (hg:w.heap[g]?=some (.cells cur e2 (0,0)))
  {a:Addr} {m c:Nat} {news:List Value} (hl:news.length=m*i.size) (anS:∀(j:Nat) (u:Value),news[j]?=some u->w.cell? (a.add j)=some u) (h1:∀u∈news,u.oneCell'=true)
  (akD:WW+m<=sCap) (rq:WW*i.size+news.length<=cur.size) :
  (Builtin.append_ #[t,t] ty #[.slice (some ⟨g,0,none⟩) WW sCap,.slice (some a) m c]).run P w =
   .ok (.slice (some ⟨g,0,none⟩) (WW+m) sCap) (w.setRow g (cur.toList.take (WW*i.size)++news++cur.toList.drop (WW*i.size+news.length)).toArray):=by
 have hf:=run_firstCells_some (P:=P) w i.size m a m c news hl anS;have NV:=run_storeCells_at P g (WW*i.size) e2 news 0 cur w hg (by simpa using rq) h1;simp only[Cf] at NV;simp[Builtin.append_,run_underlying ht,sizeOf,typeInfo,hi,Builtin.lenOf,akD,hf,Addr.add_lit,NV]
theorem rP {t ty e:TypeId} {i:TypeInfo} (hu:P.underlying t=some (.slice e)) (hi:P.info? e=some i) {base ao:Option Addr} {n cap c:Nat} (h:n<=cap) :
  (Builtin.append_ #[t,t] ty #[.slice base n cap,.slice ao 0 c]).run P w=.ok (.slice base n cap) w:=by
 cases base<;>cases ao<;>simp[Builtin.append_,run_underlying hu,sizeOf,zr hi,Builtin.lenOf,h,Builtin.firstCells,loadCells,loadCellsFrom,storeCells]
theorem amf {ca:Call} {x y:Operand} {t:TypeId} {k:Nat} {x' y':E} {v:AV} {H':Heap} {fl:Fp} {call:Nat->List AV->Heap->Option (AV × Heap)} (fu:o.op=.call ca) (H6:ca.callee=.builtin .append) (pK:ca.args=#[x,y]) (IZ:ca.argTypes=#[t,t])
  (hh:cm X φ w H) (rx:bR (Rd X φ w) φ (ev c env x') (a.eval x)) (ry:bR (Rd X φ w) φ (ev c env y') (a.eval y)) (hk:jA P t k=true) (hs:ga c call env H (.app k x' y')=some (v,H',fl)):Ok P X φ w o a v H':=by
 obtain⟨e,i,z,hu,hi,wS,hk0,hby,Vr,Wq⟩:=jK hk
 have fin:∀{p q v':Value} {w':World} {φ':dx},a.eval x=p->a.eval y=q->(Builtin.append_ #[t,t] o.type #[p,q]).run P w=.ok v' w'->bR (Rd X φ' w') φ' v v'->cm X φ' w' H'->ft φ w φ' w'->Ok P X φ w o a v H':=by
  intro p q v' w' φ' hp hq hr r h k;refine Ok.value ?_ r h k;simp only[execOp,fu,resolve,H6,pK,IZ,invoke,builtin,List.map_toArray,eQ,List.map_nil,hp,hq,Sem.run_bind,Sem.run_pure,Result.andThen_ok,hr]
 simp only[ga] at hs;split at hs
 case h_2=>cases hs
 rename_i news m hsc;obtain⟨ao,YH,vs,hy,hvl,RQ,hvc,abV⟩:=B3 hh hsc ry;have hL:ks=4294967296:=rfl;split at hs
 ·rename_i NT;rw[NT] at rx;generalize hx:a.eval x=ax at rx;cases rx;by_cases hm:m=0
  ·subst hm;simp at hs;obtain⟨rfl,rfl,rfl⟩:=hs;exact fin hx hy (rP hu hi (aJ 0)) (.dC _) hh (.refl _ _)
  ·rw[if_neg hm] at hs;split at hs
   case isFalse=>cases hs
   rename_i hc;obtain⟨RM,Bo⟩:=hc;simp at hs;obtain⟨rfl,rfl,rfl⟩:=hs;cases ao with
   |none=>exact absurd (abV rfl) hm
   |some ad=>
     have hmb:m*i.bytes<=4294967296*1024:=Nat.mul_le_mul (by omega) hby;have hr:=run_append_nil (P:=P) w t o.type e i z hu hi Vr ad m YH vs (by rw[hvl,wS]) (hvc ad rfl) (by omega) (by omega) (by omega);have hge:=grownCap_ge w m 0 e
     have pH:(vs.toArray++Builtin.zeroCells z.cells (grownCap w m 0 e-m)).size=grownCap w m 0 e*k:=by
      simp only[Array.size_append,vM,size_zeroCells,Wq,hvl,<-cO]; congr 1; omega
     obtain⟨q1,q2⟩:=wM hh (w1:=w.drew) (arr:=vs.toArray++Builtin.zeroCells z.cells (grownCap w m 0 e-m)) (e:=e) (cs:=news) rfl rfl rfl rfl
      (by rw[pH,RQ.1,hvl]; exact bV _ hge)
      (RQ.at fun j u hj=>by rw[vA (by simpa using az hj)]; simpa using hj)
     exact fin hx hy hr (Ro hh.len hge (by rw[pH]; exact aJ _)) q1 q2
 ·rename_i k' b n NT;split at hs
  case h_2=>cases hs
  rename_i cs dQ;split at hs
  case isFalse=>cases hs
  rename_i hc;obtain⟨rfl,hnk,RM,Bo⟩:=hc;simp at hs;obtain⟨rfl,rfl,rfl⟩:=hs;rw[NT] at rx;generalize hx:a.eval x=ax at rx;cases rx with
  |sl _ _ _ _ _ ad cap hb iN hp=>
    obtain⟨g,sz,arr,e2,jV,hg,pH,hle,hX,hm6⟩:=hh.cat dQ fun g sz hg=>by have:=(hp g sz hg).2; omega
    subst pH;have pH:=Eq.refl (arr.size+1);obtain⟨Vy,akD⟩:=hp g _ jV
    have hold:Cs X φ w (cs.take (n*k')) (arr.toList.take (n*k')):=by
     refine⟨by simp; omega,fun j x u hx hu=>?_⟩;have hj:j<n*k':=by have:=az hx; simp at this; omega
     rw[aZ hj] at hx hu;obtain⟨u',h1,h2⟩:=hm6 j x hx;simp at hu;rw[h1] at hu;simp at hu;subst hu;exact h2
    have lN:=hold.append RQ;have Bp:(arr.toList.take (n*k')).length=n*k':=by simp; omega
    have hlen:(n:Nat)*k'+m*k'=(n+m)*k':=by rw[cO]
    by_cases hm:m=0
    ·subst hm;have SA:vs=[]:=eL (by omega);subst SA
     obtain⟨q1,q2⟩:=hh.move (cs':=cs.take (n*k')++news) (arr':=arr) (w':=w) jV hg pH rfl (by rw[setRow_self w g arr e2 _ hg]) hX
      (by rw[lN.1]; simp; omega) (lN.at fun j u hj=>by
       rw[List.append_nil] at hj;have hj':j<n*k':=by have:=az hj; omega
       rw[aZ hj'] at hj;simpa using hj)
     refine fin hx hy (rP hu hi iN) ?_ q1 q2;refine .sl _ _ _ _ _ _ _ (by simp[hh.len]) iN fun g' pX RP=>?_;rw[aL (by simp[hh.len])] at RP;simp[hh.len] at RP;obtain⟨rfl,rfl⟩:=RP;exact⟨Vy,by omega⟩
    ·cases ao with
     |none=>exact absurd (abV rfl) hm
     |some ady=>
       have h1c:=RQ.vd Bo;by_cases XY:n+m<=cap
       ·obtain rfl:=Vy (by omega)
        have rq:n*i.size+vs.length<=arr.size:=by
         rw[wS,hvl,hlen];have:=bV k' XY;omega
        have hr:=FL (P:=P) (ty:=o.type) (c:=YH) hu hi hg (by rw[hvl,wS]) (hvc ady rfl) h1c XY rq;rw[wS] at hr rq
        have Fa:(arr.toList.take (n*k')++vs++arr.toList.drop (n*k'+vs.length)).toArray.size=arr.size:=by
         simp only[vM,bO,bD,eV,tu]; omega
        obtain⟨q1,q2⟩:=hh.move (cs':=cs.take (n*k')++news) (arr':=(arr.toList.take (n*k')++vs++arr.toList.drop (n*k'+vs.length)).toArray) jV hg pH Fa rfl hX
         (by rw[lN.1,Fa]; simp; omega) (lN.at fun j u hj=>by
          simp only[AR];rw[aA (az hj)];exact hj)
        refine fin hx hy hr (abp (by simp[hh.len]) XY (by omega)) q1 q2
       ·have holds:∀(j:Nat) (u:Value),(arr.toList.take (n*k'))[j]?=some u->w.cell? (ad.add j)=some u:=by
         intro j u hj;have hj':j<n*k':=by have:=az hj; omega
         have hn0:0<n:=by
          rcases Nat.eq_zero_or_pos n with h|h
          ·subst h; simp at hj'
          ·exact h
         obtain rfl:=Vy (by omega);rw[Addr.jB,gE hg];rw[aZ hj'] at hj;simpa using hj
        have hmb:(n+m)*i.bytes<=4294967296*1024:=Nat.mul_le_mul (by omega) hby
        have hr:=run_append_grow (P:=P) w t o.type e i z hu hi Vr ad n cap (arr.toList.take (n*k')) (by rw[Bp,wS]) holds ady m YH vs (by rw[hvl,wS]) (hvc ady rfl) (by omega) (by omega)
         (growslice_fits (by omega) (by omega))
        have hge:=grownCap_ge w (n+m) cap e
        have hsz2:((arr.toList.take (n*k')).toArray++vs.toArray++Builtin.zeroCells z.cells (grownCap w (n+m) cap e-(n+m))).size=grownCap w (n+m) cap e*k':=by
         simp only[Array.size_append,vM,size_zeroCells,Wq,hvl,Bp,<-cO]; congr 1; omega
        obtain⟨k1,k2⟩:=hh.af7 b;have PW:Cs X (φ.set b none) w (cs.take (n*k')++news) (arr.toList.take (n*k')++vs):=⟨lN.1,fun j x u hx hu=>k2.rep (lN.2 j x u hx hu)⟩
        obtain⟨q1,q2⟩:=wM k1 (w1:=w.drew) (arr:=(arr.toList.take (n*k')).toArray++vs.toArray++Builtin.zeroCells z.cells (grownCap w (n+m) cap e-(n+m))) (e:=e) (cs:=cs.take (n*k')++news) rfl rfl rfl rfl
         (by rw[hsz2,lN.1,bO,Bp,hvl,hlen]; exact bV _ hge)
         (PW.at fun j u hj=>by
          rw[vA (by simpa using az hj)];have:((arr.toList.take (n*k')).toArray++vs.toArray)=(arr.toList.take (n*k')++vs).toArray:=by simp
          rw[this];simpa using hj)
        refine fin hx hy hr ?_ q1 (k2.trans q2);exact abp (by simp[hh.len]) hge (by rw[hsz2]; exact aJ _)
 ·cases hs

theorem aik {ca:Call} {x y:Operand} {t t':TypeId} {k:Nat} {x' y':E} {v:AV} {H':Heap} {fl:Fp} {call:Nat->List AV->Heap->Option (AV × Heap)} (fu:o.op=.call ca) (H6:ca.callee=.builtin .copy) (pK:ca.args=#[x,y]) (IZ:ca.argTypes=#[t,t'])
  (hh:cm X φ w H) (rx:bR (Rd X φ w) φ (ev c env x') (a.eval x)) (ry:bR (Rd X φ w) φ (ev c env y') (a.eval y)) (hk:jA P t k=true) (hs:ga c call env H (.copy k x' y')=some (v,H',fl)):Ok P X φ w o a v H':=by
 obtain⟨e,i,z,hu,hi,wS,hk0,hby,Vr,Wq⟩:=jK hk
 have fin:∀{p q v':Value} {w':World} {φ':dx},a.eval x=p->a.eval y=q->(Builtin.copy_ #[t,t'] o.type #[p,q]).run P w=.ok v' w'->bR (Rd X φ' w') φ' v v'->cm X φ' w' H'->ft φ w φ' w'->Ok P X φ w o a v H':=by
  intro p q v' w' φ' hp hq hr r h k;refine Ok.value ?_ r h k;simp only[execOp,fu,resolve,H6,pK,IZ,invoke,builtin,List.map_toArray,eQ,List.map_nil,hp,hq,Sem.run_bind,Sem.run_pure,Result.andThen_ok,hr]
 simp only[ga] at hs;split at hs
 case h_2=>cases hs
 rename_i news m hsc;obtain⟨ao,YH,vs,hy,hvl,RQ,hvc,abV⟩:=B3 hh hsc ry
 have zero:∀{base:Option Addr} {n cap:Nat},Nat.min m n=0->(Builtin.copy_ #[t,t'] o.type #[.slice base n cap,.slice ao m YH]).run P w=.ok (.int .i64 0) w:=by
  intro base n cap h0;cases base<;>cases ao<;>simp[Builtin.copy_,run_underlying hu,Builtin.lenOf,sizeOf,zr hi,h0,Builtin.firstCells,loadCells,loadCellsFrom,storeCells,goInt]
 split at hs
 ·rename_i NT;rw[NT] at rx;generalize hx:a.eval x=ax at rx;cases rx;simp at hs;obtain⟨rfl,rfl,rfl⟩:=hs;exact fin hx hy (zero (Nat.min_zero m)) (.int _ _ _) hh (.refl _ _)
 ·rename_i k' b off n NT;split at hs
  case h_2=>cases hs
  rename_i cs dQ;split at hs
  case isFalse=>cases hs
  rename_i hc;obtain⟨rfl,rq,Bo⟩:=hc;simp only[af,aF] at hs;obtain⟨rfl,rfl,rfl⟩:=hs;rw[NT] at rx;generalize hx:a.eval x=ax at rx;cases rx with
  |sl _ _ _ _ _ ad cap hb iN hp=>
    obtain⟨g,sz,arr,e2,jV,hg,pH,hle,hX,hm6⟩:=hh.cat dQ fun g sz hg=>by have:=(hp g sz hg).2; omega
    by_cases h0:min m n=0
    ·have e0:H.set b (some (kj cs off (news.take (min m n*k'))))=H:=by
      have e1:kj cs off (news.take (min m n*k'))=cs:=by rw[h0]; simp[kj]
      rw[e1]
      have jJ:H[b]?=some (some cs):=by
       unfold aH at dQ;split at dQ
       ·rename_i q hq;cases dQ;exact hq
       ·cases dQ
      apply dW;intro j;rw[aU];split
      ·rename_i ej;subst ej;rw[jJ];simp[az jJ]
      ·rfl
     have h0':Nat.min m n=0:=h0;exact fin hx hy (zero h0') (by rw[h0]; exact .int _ _ _) (by rw[e0]; exact hh) (.refl _ _)
    ·obtain rfl:=(hp g sz jV).1 (by omega);cases ao with
     |none=>exact absurd (abV rfl) (by omega)
     |some ady=>
       have rp:bR (Rd X φ w) φ (.ptr b off) (.pointer (some ⟨g,off,none⟩)):=.ptr _ _ _ _ hb fun g' pX RP=>by
        rw[jV] at RP;simp at RP;obtain⟨rfl,rfl⟩:=RP;exact⟨rfl,by omega⟩
       have hle2:min m n*k'<=m*k':=bV _ (Nat.min_le_left _ _);have hle3:min m n*k'<=n*k':=bV _ (Nat.min_le_right _ _)
       have hcz:Cs X φ w (news.take (min m n*k')) (vs.take (min m n*k')):=by
        refine⟨by simp[RQ.1],fun j d u hd hu=>?_⟩;have hj:j<min m n*k':=by have:=az hd; rw[bD] at this; omega
        rw[aZ hj] at hd hu;exact RQ.2 j d u hd hu
       have hnl:news.length=m*k':=by rw[RQ.1,hvl]
       obtain⟨g',w',e1,NV,q1,q2⟩:=I8 (P:=P) hh dQ rp hcz (fun u hu=>RQ.vd Bo u (List.mem_of_mem_take hu)) (by rw[bD]; omega);simp at e1;subst e1
       have hf:=run_firstCells_some (P:=P) w i.size (min m n) ady m YH (vs.take (min m n*k')) (by rw[bD,hvl,wS]; omega) (fun j u hj=>by
        have hj':j<min m n*k':=by have:=az hj; rw[bD] at this; omega
        rw[aZ hj'] at hj;exact hvc ady rfl j u hj)
       have hmin:Nat.min m n=min m n:=rfl;refine fin hx hy (v':=.int .i64 ((min m n:Nat):Int)) (w':=w') ?_ (.int _ _ _) q1 q2;have Vs:(Builtin.firstCells i.size (Nat.min m n) (.slice (some ady) m YH)).run P w=.ok (vs.take (min m n*k')).toArray w:=hf;simp[Builtin.copy_,run_underlying hu,Builtin.lenOf,sizeOf,zr hi,Vs,NV,goInt]
       try rfl
 ·cases hs

/-! Calls -/
def Ret (X:Nat->Prop) (φ:dx) (w:World) (r:AV) (H':Heap) (e:Ending) (w':World):Prop:=
 ∃ v' φ',e=.returned v'/\bR (Rd X φ' w') φ' r v'/\cm X φ' w' H'/\ft φ w φ' w'
def GN (P:Program) (c:eS) (call:Nat->List AV->Heap->Option (AV × Heap)):Prop:=
 ∀ f m q,c.fn f=some (m,q)->∀args H r H',call f args H=some (r,H')->∀X φ w vargs,rI X φ w args vargs->cm X φ w H->eI c X φ w->Calls P f vargs w (Ret X φ w r H')

theorem cm.gS (h:cm X φ w H) {g:Nat} (ho:bU φ g):g<w.heap.size/\¬ X g:=by
 obtain⟨b,sz,hb⟩:=ho;obtain⟨x,hx⟩:=bt (l:=H) (i:=b) (h.len▸az hb);cases x with
 |none=>rw[h.dead b hx] at hb; simp at hb
 |some cs=>
   obtain⟨g',pX,arr,e,h1,h2,_,_,h5,_⟩:=h.live b cs hx;rw[h1] at hb;simp at hb;rw[<-hb.1];exact⟨(eG.1 h2).1,h5⟩
theorem cm.empty (h:cm X φ w H):cm (fun g=>X g\/bU φ g) [] w []:=
 ⟨rfl,fun g hg=>hg.elim (h.GR g) (fun ho=>(h.gS ho).1),fun b cs hb=>by simp at hb,fun b hb=>by simp at hb,fun b b' g sz pX h1=>by simp at h1⟩
theorem Ur (hh:cm X φ w H) {R:Addr->Value->Prop} (hR:∀a u,Rd X φ w a u->R a u) {xs ys:List AV} {bs:List Nat} {n:Nat} {vs:Array Value} (hm:Gc (GA H n) xs=some (ys,bs))
  (hb:∀b∈bs,∀g sz:Nat,φ[b]?=some (some (g,sz))->∀o u,w.cell? ⟨g,o,none⟩=some u->R ⟨g,o,none⟩ u) (ha:rI X φ w xs vs) :
  ys.length=vs.size/\∀ (i:Nat) (c:AV) (v:Value),ys[i]?=some c->vs[i]?=some v->bR R [] c v:=by
 obtain⟨hl,X1⟩:=wA hm;refine⟨by rw[hl,ha.1],fun i c v hc hv=>?_⟩;obtain⟨x,hx⟩:=bt (l:=xs) (i:=i) (by have:=az hc; omega);obtain⟨y,b,e1,e2,e3⟩:=X1 i x hx;rw[e2] at hc;simp at hc;subst hc;exact I2 hh hR n x _ v b e1 (fun b' jJ=>hb b' (e3 b' jJ)) (ha.2 i x v hx hv)

theorem F0 {call:Nat->List AV->Heap->Option (AV × Heap)} (eH:GN P c call) {f:Nat} {m:Md} {q:fM} (hf:c.fn f=some (m,q)) {args:List AV} {r r':AV} {H1:Heap} {bs:List Nat} (hr:call f args []=some (r,H1)) (hz:GA H1 YU r=some (r',bs))
  (hh:cm X φ w H) (hg:eI c X φ w) {vargs:Array Value} (ha:args.length=vargs.size/\∀ (i:Nat) (c:AV) (v:Value),args[i]?=some c->vargs[i]?=some v->bR (Rd X φ w) [] c v) :
  Calls P f vargs w (Ret X φ w r' H):=by
 have xx:∀{w':World} a u,Rd X φ w' a u->Rd (fun g=>X g\/bU φ g) [] w' a u:=fun a u ⟨h1,h2,h3⟩=>⟨fun h=>h.elim h1 h2,bU.nil _,h3⟩;have an1:∀{w':World} a u,Rd (fun g=>X g\/bU φ g) [] w' a u->Rd X φ w' a u:=fun a u ⟨h1,_,h3⟩=>⟨fun h=>h1 (.inl h),fun h=>h1 (.inr h),h3⟩;refine (eH f m q hf args [] r H1 hr (fun g=>X g\/bU φ g) [] w vargs ⟨ha.1,fun i x v hx hv=>(ha.2 i x v hx hv).mono xx (.refl _)⟩ hh.empty (fun g=>(hg g).mono xx (.refl _))).mono ?_;rintro e w1 ⟨v',l5,rfl,r1,h1,a1⟩;refine⟨v',φ,rfl,?_,hh.of_same a1,.of_same a1⟩
 have It:=I2 h1 (R:=Rd (fun g=>X g\/bU φ g) [] w1) (fun a u ⟨p1,p2,p3⟩=>⟨p1,bU.nil _,p3⟩) YU r r' v' bs hz
  (fun b _ g sz hb o u hu=>⟨(h1.gS ⟨b,sz,hb⟩).2,bU.nil _,hu⟩) r1
 exact (It.mono an1 (.refl _)).HV φ
theorem Qh {call:Nat->List AV->Heap->Option (AV × Heap)} (eH:GN P c call) {f:Nat} {args:List AV} {r:AV} {H':Heap} {fl:Fp} (hs:Az c call f args H=some (r,H',fl))
  (hh:cm X φ w H) (hg:eI c X φ w) {vargs:Array Value} (ha:rI X φ w args vargs):(∃m q,c.fn f=some (m,q))/\Calls P f vargs w (Ret X φ w r H'):=by
 unfold Az at hs;split at hs
 ·cases hs
 ·rename_i q hf;refine⟨⟨_,_,hf⟩,?_⟩;split at hs
  case h_2=>cases hs
  rename_i r1 H1 hr;simp at hs;obtain⟨rfl,rfl,rfl⟩:=hs;exact eH f _ q hf args H r1 H1 hr X φ w vargs ha hh hg
 ·rename_i q hf;refine⟨⟨_,_,hf⟩,?_⟩;split at hs
  case h_2=>cases hs
  rename_i r1 H1 hr;split at hs
  case h_2=>cases hs
  rename_i r' bs hz;split at hs
  case isFalse=>cases hs
  rename_i hc;obtain⟨hle,hge,dy⟩:=hc;simp at hs;obtain⟨rfl,rfl,rfl⟩:=hs;refine (eH f _ q hf args H r1 H1 hr X φ w vargs ha hh hg).mono ?_;rintro e w1 ⟨v',l5,rfl,r1,h1,a1⟩;have hlen:=hh.len;refine⟨v',l5.take φ.length,rfl,?_,by rw[hlen]; exact h1.take hle dy,a1.take⟩
  have hmem:∀{n:Nat} {l:List Nat},acE n l=true->∀b∈l,n<=b:=by
   intro n l
   induction l with
   |nil=>intro _ b hb; simp at hb
   |cons x r ih=>
     intro h b hb;simp only[acE,ae,decide_eq_true_eq] at h;rcases aO.1 hb with h'|h'
     ·subst h'; exact h.1
     ·exact ih h.2 b h'
  have It:=I2 h1 (R:=Rd X (l5.take φ.length) w1) Zo YU _ _ v' bs hz (fun b hb g sz jV o u hu=>?_) r1
  ·exact It.HV _
  ·refine⟨(h1.gS ⟨b,sz,jV⟩).2,fun⟨b',pX,jJ⟩=>?_,hu⟩;rw[bT] at jJ;split at jJ
   ·rename_i bE;have:=h1.inj b b' g sz pX jV jJ;have:=hmem hge b hb;omega
   ·cases jJ
 ·rename_i q hf;refine⟨⟨_,_,hf⟩,?_⟩;split at hs
  ·rename_i oS;split at hs
   case h_2=>cases hs
   rename_i r1 H1 hr;split at hs
   case h_2=>cases hs
   rename_i r' bs hz;simp at hs;obtain⟨rfl,rfl,rfl⟩:=hs;exact F0 eH hf hr hz hh hg ⟨ha.1,fun i x v hx hv=>(ha.2 i x v hx hv).dL (ue oS i x hx) []⟩
  ·split at hs
   case h_2=>cases hs
   rename_i vu bs hm;split at hs
   case h_2=>cases hs
   rename_i r1 H1 hr;split at hs
   case h_2=>cases hs
   rename_i r' bs' hz;split at hs
   ·rename_i anV;simp at hs;obtain⟨rfl,rfl,rfl⟩:=hs;have hh0:cm X [] w []:=⟨rfl,hh.GR,fun b cs hb=>by simp at hb,fun b hb=>by simp at hb,fun b b' g sz pX h1=>by simp at h1⟩;have xx:∀{w':World} a u,Rd X φ w' a u->Rd X [] w' a u:=fun a u ⟨h1,_,h3⟩=>⟨h1,bU.nil _,h3⟩;have ha':=Ur hh (R:=Rd X [] w) xx hm (fun b _ g sz hb o u hu=>⟨(hh.gS ⟨b,sz,hb⟩).2,bU.nil _,hu⟩) ha;have hc:=F0 (X:=X) (φ:=[]) (H:=[]) eH hf hr hz hh0 (fun g=>(hg g).mono xx (.refl _)) ha';refine hc.mono ?_;rintro e w1 ⟨v',l5,rfl,r1,h1,a1⟩;exact⟨v',φ,rfl,r1.of_flat anV _ _,hh.of_same a1,.of_same a1⟩
   ·simp at hs;obtain⟨rfl,rfl,rfl⟩:=hs;obtain⟨k1,k2⟩:=cm.kill bs hh
    have ha':=Ur hh (R:=Rd X (UY φ bs) w) k2.rd hm (fun b hb g sz jV o u hu=>⟨(hh.gS ⟨b,sz,jV⟩).2,fun⟨b',pX,jJ⟩=>by
     obtain⟨e1,e2⟩:=PQ bs φ b' _ jJ;exact e2 (hh.inj b b' g sz pX jV e1▸hb),hu⟩) ha
    have hc:=F0 eH hf hr hz k1 (hg.oN k2) ha';refine hc.mono ?_;rintro e w1 ⟨v',l5,rfl,r1,h1,a1⟩;exact⟨v',l5,rfl,r1,h1,k2.trans a1⟩

theorem D5 (dy:Wl P c) {f:Nat} {m:Md} {q:fM} (hf:c.fn f=some (m,q)) (vargs:Array Value):(callFunc f vargs).run P w=.ok (.enter f vargs) w:=by
 obtain⟨fn,h1,h2⟩:=dy.fn f m q hf;simp only[chkF,ae,bN] at h2;obtain⟨⟨⟨_,Fb⟩,_⟩,wG⟩:=h2
 have hb:fn.body.isNone=false:=by
  cases hfb:fn.body with
  |none=>rw[hfb] at wG; cases wG
  |some b=>rfl
 simp only[callFunc,Sem.run_bind,run_program,Result.andThen_ok,h1,Fb,hb,bH,if_false,Sem.run_pure]
theorem Ok.call {f:Nat} {vargs:Array Value} {r:AV} {H':Heap} (hr:(execOp a.eval o).run P w=.ok (.enter f vargs) w) (hc:Calls P f vargs w (Ret X φ w r H')):Ok P X φ w o a r H':=by
 intro K Q hK;unfold Oper.wp;rw[hr,Oper.upon_enter];refine hc.mono ?_;rintro e w' ⟨v',φ',rfl,r1,h1,a1⟩;exact hK v' w' φ' r1 h1 a1
theorem ail {call:Nat->List AV->Heap->Option (AV × Heap)} (dy:Wl P c) (eH:GN P c call) {ca:Call} {f:Nat} {ys:List E} {r:AV} {H':Heap} {fl:Fp} (fu:o.op=.call ca) (H6:ca.callee=.value (.func f))
  (hh:cm X φ w H) (he:rH X φ w env a.tmps) (hg:eI c X φ w) (pK:jL ca.args.toList ys=true) (hs:ga c call env H (.call f ys)=some (r,H',fl)):Ok P X φ w o a r H':=by
 obtain⟨hl,hr⟩:=qx he hg pK;obtain⟨⟨m,q,hf⟩,hc⟩:=Qh (P:=P) eH hs hh hg (vargs:=ca.args.map a.eval) ⟨by simp[hl],fun i x v hx hv=>hr i x v hx (by simpa using hv)⟩;refine Ok.call ?_ hc;simp only[execOp,fu,resolve,H6,Act.eval,Deferred.ofValue,invoke,Sem.run_bind,Sem.run_pure,Result.andThen_ok,Array.empty_append,Array.append_empty];exact D5 dy hf _
theorem afx {call:Nat->List AV->Heap->Option (AV × Heap)} (dy:Wl P c) (eH:GN P c call) {ca:Call} {x:Operand} {y:E} {ys:List E} {r:AV} {H':Heap} {fl:Fp} (fu:o.op=.call ca) (H6:ca.callee=.value x)
  (hh:cm X φ w H) (he:rH X φ w env a.tmps) (hg:eI c X φ w) (hx:dj x y=true) (pK:jL ca.args.toList ys=true) (hs:ga c call env H (.jM y ys)=some (r,H',fl)):Ok P X φ w o a r H':=by
 obtain⟨hl,hr⟩:=qx he hg pK;have rx:=cj (a:=a) he hg hx;simp only[ga] at hs;split at hs
 case h_2=>cases hs
 rename_i f as bs hy;rw[hy] at rx;generalize Wu:a.eval x=ax at rx;cases rx with
 |func _ _ _ va _ vb hyy Dz Dy hra hrb=>
   have lN:rI X φ w (as++I3 c env ys++bs) (va++ca.args.map a.eval++vb):=by
    have c1:Cs X φ w as va.toList:=⟨by simpa using Dz,fun i x v hx hv=>hra i x v hx (by simpa using hv)⟩;have c2:Cs X φ w (I3 c env ys) (ca.args.map a.eval).toList:=⟨by simp[hl],fun i x v hx hv=>hr i x v hx (by simpa using hv)⟩;have c3:Cs X φ w bs vb.toList:=⟨by simpa using Dy,fun i x v hx hv=>hrb i x v hx (by simpa using hv)⟩;have c4:=(c1.append c2).append c3
    exact⟨by have:=c4.1; simp at this ⊢; omega,fun i x v hx hv=>c4.2 i x v hx (by
     have:(va++ca.args.map a.eval++vb).toList=va.toList++(ca.args.map a.eval).toList++vb.toList:=by simp
     rw[<-this,fo]; exact hv)⟩
   obtain⟨⟨m,q,hf⟩,hc⟩:=Qh (P:=P) eH hs hh hg lN;refine Ok.call ?_ hc;simp only[execOp,fu,resolve,H6,Wu,Deferred.ofValue,invoke,Sem.run_bind,Sem.run_pure,Result.andThen_ok];exact D5 dy hf _
end
end Go.Am

/- What one operation of the dump does, continued: maps. -/
namespace Go.Am
section
variable {P:Program} {c:eS} {X:Nat->Prop} {φ:dx} {w:World} {env:Env} {H:Heap} {a:Act} {o:Oper}

def IB (l:List AV):Prop:=∀c∈l,(∃k n,c=.int k n)\/∃ b,c=.bool b
theorem MC:∀{l:List Bool} {xs ys:List AV},Bz l xs ys=some true->xs=ys/\IB xs
 |[],xs,ys,h=>by
   cases xs<;>cases ys<;>simp[Bz] at h
   exact⟨rfl,fun c hc=>by cases hc⟩
 |true::l,xs,ys,h=>by
   obtain⟨k,a,r,b,s,e',rfl,rfl,h1,h2⟩:=R3 h;simp only[GQ,ae,beq_iff_eq] at h2;obtain⟨rfl,rfl⟩:=h2;obtain⟨rfl,h3⟩:=MC h1;refine⟨rfl,fun c hc=>?_⟩;rcases aO.1 hc with rfl|hc
   ·exact .inl ⟨_,_,rfl⟩
   ·exact h3 c hc
 |false::l,xs,ys,h=>by
   obtain⟨a,r,b,s,e',rfl,rfl,h1,h2⟩:=MD h;simp only[GQ,ae,beq_iff_eq] at h2;obtain⟨rfl,rfl⟩:=h2;obtain⟨rfl,h3⟩:=MC h1;refine⟨rfl,fun c hc=>?_⟩;rcases aO.1 hc with rfl|hc
   ·exact .inr ⟨_,rfl⟩
   ·exact h3 c hc
theorem amz {R R':Addr->Value->Prop} {ψ:dx} {x:AV} {u v:Value} (h:(∃k n,x=.int k n)\/∃ b,x=.bool b) (h1:bR R φ x u) (h2:bR R' ψ x v):u=v:=by
 rcases h with⟨k,n,rfl⟩|⟨b,rfl⟩<;>cases h1<;>cases h2<;>rfl
theorem amA {R:Addr->Value->Prop} {x:AV} {u:Value} (h:(∃k n,x=.int k n)\/∃ b,x=.bool b) (h1:bR R φ x u) (n:Nat):Instr.sameBits n u u=true:=by
 rcases h with⟨k,m,rfl⟩|⟨b,rfl⟩<;>cases h1<;>cases n<;>simp[Instr.sameBits]
theorem amB {R R':Addr->Value->Prop} {ψ:dx} {xs:List AV} (h:IB xs) {u v:Value} (h1:bR R φ (.agg xs) u) (h2:bR R' ψ (.agg xs) v):u=v/\∀ n,Instr.sameBits (n+1) u u=true:=by
 cases h1 with
 |agg _ _ va Dz ha=>
   cases h2 with
   |agg _ _ vb Dy hb=>
     have e:va=vb:=by
      apply Array.ext
      ·omega
      ·intro i i1 i2;obtain⟨x,hx⟩:=bt (l:=xs) (i:=i) (by omega);exact amz (h x (bp hx)) (ha i x _ hx (mS i1)) (hb i x _ hx (mS i2))
     subst e;refine⟨rfl,fun n=>?_⟩;simp only[Instr.sameBits,beq_self_eq_true,Bool.true_and,pY];rintro⟨p,q⟩ hpq;obtain⟨i,hi⟩:=bG hpq;rw[List.getElem?_zip_eq_some] at hi;obtain⟨i1,i2⟩:=hi;simp only at i1 i2;rw[i1] at i2;cases i2;obtain⟨x,hx⟩:=bt (l:=xs) (i:=i) (by have:=az i1; simp at this; omega);exact amA (h x (bp hx)) (ha i x p hx (by simpa using i1)) n
theorem U4 {R R':Addr->Value->Prop} {ψ:dx} {K:Kt} {x y:AV} {u v:Value} (h:Bi K x y=some true) (h1:bR R φ x u) (h2:bR R' ψ y v):u=v/\∀ n,Instr.sameBits (n+1) u u=true:=by
 unfold Bi at h;split at h
 ·rename_i k k1 a k2 b;split at h
  ·rename_i hk;obtain⟨rfl,rfl⟩:=hk;simp at h;subst h;cases h1; cases h2;exact⟨rfl,fun n=>by simp[Instr.sameBits]⟩
  ·cases h
 ·rename_i a b;simp only[af] at h;obtain rfl:=(MapKept.bytes_beq a b).1 h;cases h1; cases h2;exact⟨rfl,fun n=>by simp only[Instr.sameBits]; exact (MapKept.bytes_beq a a).2 rfl⟩
 ·obtain⟨rfl,hib⟩:=MC h;exact amB hib h1 h2
 ·cases h
theorem ajK {t:TypeId} {l:List Bool} (hc:uH P t (.kst l)=true) {xs ys:List AV} {u v:Value} {e:Bool} (h:Bz l xs ys=some e) (h1:bR (Rd X φ w) φ (.agg xs) u) (h2:bR (Rd X φ w) φ (.agg ys) v):(Op.equal t u v).run P w=.ok e w:=by
 cases h1 with
 |agg _ _ vx Gv hrx=>
   cases h2 with
   |agg _ _ vy Gu hry=>
     simp only[uH] at hc;split at hc
     ·rename_i fs hu;simp only[ae,bN] at hc;obtain⟨⟨Wt,I1⟩,hc3⟩:=hc;have hfo:P.fieldsOf t=fs:=by simp[Program.fieldsOf,hu]
      show (Op.equalIn 10000 t (.agg vx) (.agg vy)).run P w=_;rw[show (10000:Nat)=9999+1 from rfl,run_equalIn_struct w 9999 t vx vy (by rw[hu,hfo]) Wt,hfo];exact wX 9998 fs.toList l 0 xs ys vx vy e hc3 (by simpa using h) Gv Gu hrx hry
     ·cases hc
def YS (X:Nat->Prop) (φ:dx) (w:World) (cs:List AV) (es:List MapEntry):Prop:=cs.length=es.length/\∀ (i:Nat) (c:AV) (e:MapEntry),cs[i]?=some c->es[i]?=some e->bR (Rd X φ w) φ c (.tuple #[e.key,e.val])
theorem YS.tail {c:AV} {cs:List AV} {e:MapEntry} {es:List MapEntry} (h:YS X φ w (c::cs) (e::es)):bR (Rd X φ w) φ c (.tuple #[e.key,e.val])/\YS X φ w cs es:=
 ⟨h.2 0 c e rfl rfl,by have:=h.1; simpa using this,fun i c' e' h1 h2=>h.2 (i+1) c' e' (by simpa using h1) (by simpa using h2)⟩
theorem Te {R:Addr->Value->Prop} {x y:AV} {u v:Value} (h:bR R φ (.dR [x,y]) (.tuple #[u,v])):bR R φ x u/\bR R φ y v:=by
 cases h with
 |dR _ _ vs hl h=>exact⟨h 0 x u rfl rfl,h 1 y v rfl rfl⟩
theorem EE {R:Addr->Value->Prop} {x y:AV} {u v:Value} (h1:bR R φ x u) (h2:bR R φ y v):bR R φ (.dR [x,y]) (.tuple #[u,v]):=by
 refine .dR _ _ _ rfl fun i c z hc hz=>?_
 match i with
 |0=>simp at hc hz; subst hc; subst hz; exact h1
 |1=>simp at hc hz; subst hc; subst hz; exact h2
 |i+2=>simp at hc
def Found (X:Nat->Prop) (φ:dx) (w:World) (es:List MapEntry) (i:Nat) (u:Value):Option (Nat × AV)->Option (Nat × Value)->Prop
 |none,r=>r=none
 |some (n,v),r=>∃e,i<=n/\es[n-i]?=some e/\r=some (n,e.val)/\bR (Rd X φ w) φ v e.val/\e.key=u/\∀ m,Instr.sameBits (m+1) u u=true
theorem Found.next {es:List MapEntry} {e0:MapEntry} {i:Nat} {u:Value} {r:Option (Nat × AV)} {q:Option (Nat × Value)} (h:Found X φ w es (i+1) u r q):Found X φ w (e0::es) i u r q:=by
 cases r with
 |none=>exact h
 |some p=>
   obtain⟨n,v⟩:=p;obtain⟨e,h1,h2,h3⟩:=h;refine⟨e,by omega,?_,h3⟩;rw[show n-i=(n-(i+1))+1 by omega];simpa using h2
theorem Dm {K:Kt} {x c:AV} {cs:List AV} {i:Nat} {r:Option (Nat × AV)} (h:iY K x (c::cs) i=some r):∃k' v,c=.dR [k',v]/\((Bi K x k'=some true/\r=some (i,v))\/(Bi K x k'=some false/\iY K x cs (i+1)=some r)):=by
 have shape:∃k' v,c=.dR [k',v]:=by
  cases c with
  |dR vs=>
    match vs,h with
    |[],h=>simp[iY] at h
    |[_],h=>simp[iY] at h
    |[k',v],h=>exact⟨k',v,rfl⟩
    |_::_::_::_,h=>simp[iY] at h
  |_=>simp[iY] at h
 obtain⟨k',v,rfl⟩:=shape;refine⟨k',v,rfl,?_⟩;simp only[iY] at h;split at h
 ·rename_i hb;simp only[af] at h;exact .inl ⟨hb,h.symm⟩
 ·rename_i hb;exact .inr ⟨hb,h⟩
 ·cases h
theorem Aw {d:TypeDesc} {K:Kt} (hd:(∃k,d=.int k/\K=.kint k)\/(d=.string/\K=.Du)) {x:AV} {u:Value} (rx:bR (Rd X φ w) φ x u):∀(cs:List AV) (es:List MapEntry) (i:Nat) (r:Option (Nat × AV)),iY K x cs i=some r->YS X φ w cs es ->
  ∃ q,Instr.findNow d u es i=some q/\Found X φ w es i u r q
 |[],es,i,r,h,he=>by
   obtain rfl:es=[]:=eL (by have:=he.1; simpa using this.symm);simp only[iY,af] at h;subst h;exact⟨none,rfl,rfl⟩
 |c::cs,[],i,r,h,he=>by have:=he.1; simp at this
 |c::cs,e::es,i,r,h,he=>by
   obtain⟨rc,ht⟩:=he.tail;obtain⟨k',v,rfl,Mm⟩:=Dm h;clear h;obtain⟨rk,rv⟩:=Te rc
   have key:∀b,Bi K x k'=some b->Instr.sameNow d u e.key=some b:=by
    intro b hb;generalize e.key=z at rk ⊢;rcases hd with⟨k,rfl,rfl⟩|⟨rfl,rfl⟩
    ·cases x<;>cases k'<;>simp only[Bi] at hb<;>try (cases hb; done)
     split at hb
     ·rename_i hk;obtain⟨rfl,rfl⟩:=hk;cases rx; cases rk;simpa[Instr.sameNow] using hb
     ·cases hb
    ·cases x<;>cases k'<;>simp only[Bi] at hb<;>try (cases hb; done)
     cases rx; cases rk;simpa[Instr.sameNow] using hb
   rcases Mm with⟨hb,rfl⟩|⟨hb,h⟩
   ·obtain⟨q1,q2⟩:=U4 hb rx rk;exact⟨some (i,e.val),by simp only[Instr.findNow,key _ hb],e,aJ _,by simp,rfl,rv,q1.symm,q2⟩
   ·obtain⟨q,h1,h2⟩:=Aw hd rx cs es (i+1) r h ht;exact⟨q,by simp only[Instr.findNow,key _ hb]; exact h1,h2.next⟩
theorem Qa {t:TypeId} {l:List Bool} (hc:uH P t (.kst l)=true) {x:AV} {u:Value} (rx:bR (Rd X φ w) φ x u):∀(cs:List AV) (es:List MapEntry) (i:Nat) (r:Option (Nat × AV)),iY (.kst l) x cs i=some r->YS X φ w cs es ->
  ∃ q,(Instr.findAsking t u es i).run P w=.ok q w/\Found X φ w es i u r q
 |[],es,i,r,h,he=>by
   obtain rfl:es=[]:=eL (by have:=he.1; simpa using this.symm);simp only[iY,af] at h;subst h;exact⟨none,rfl,rfl⟩
 |c::cs,[],i,r,h,he=>by have:=he.1; simp at this
 |c::cs,e::es,i,r,h,he=>by
   obtain⟨rc,ht⟩:=he.tail;obtain⟨k',v,rfl,Mm⟩:=Dm h;clear h;obtain⟨rk,rv⟩:=Te rc
   have key:∀b,Bi (.kst l) x k'=some b->(Op.equal t u e.key).run P w=.ok b w:=by
    intro b hb;generalize e.key=z at rk ⊢;cases x<;>cases k'<;>simp only[Bi] at hb<;>try (cases hb; done)
    exact ajK hc hb rx rk
   rcases Mm with⟨hb,rfl⟩|⟨hb,h⟩
   ·obtain⟨q1,q2⟩:=U4 hb rx rk;exact⟨some (i,e.val),by simp[Instr.findAsking,key _ hb],e,aJ _,by simp,rfl,rv,q1.symm,q2⟩
   ·obtain⟨q,h1,h2⟩:=Qa hc rx cs es (i+1) r h ht;exact⟨q,by simp only[Instr.findAsking,Sem.run_bind,key _ hb,Result.andThen_ok,bH,if_false]; exact h1,h2.next⟩
theorem VJ {t:TypeId} {K:Kt} (hc:uH P t K=true) {x:AV} {u:Value} (rx:bR (Rd X φ w) φ x u) {cs:List AV} {es:List MapEntry} {r:Option (Nat × AV)} (h:iY K x cs 0=some r) (he:YS X φ w cs es) :
  ∃ q,(Instr.findKey t u es).run P w=.ok q w/\Found X φ w es 0 u r q:=by
 cases K with
 |kint k=>
   simp only[uH] at hc;split at hc
   ·rename_i k' hu;simp only[decide_eq_true_eq] at hc;subst hc;obtain⟨q,h1,h2⟩:=Aw (d:=.int k) (.inl ⟨k,rfl,rfl⟩) rx cs es 0 r h he;exact⟨q,MapKept.run_findKey hu h1,h2⟩
   ·cases hc
 |Du=>
   simp only[uH] at hc;split at hc
   ·rename_i hu;obtain⟨q,h1,h2⟩:=Aw (d:=.string) (.inr ⟨rfl,rfl⟩) rx cs es 0 r h he;exact⟨q,MapKept.run_findKey hu h1,h2⟩
   ·cases hc
 |kst l=>
   obtain⟨q,h1,h2⟩:=Qa hc rx cs es 0 r h he;simp only[uH] at hc;split at hc
   ·rename_i fs hu;exact⟨q,by rw[run_findKey_eq w (by rw[hu]) u es]; exact h1,h2⟩
   ·cases hc
theorem DI (em:Bool) (n:Nat):∀(fs:List Field) (l:List Bool) (off:Nat) (xs:List AV) (vx:Array Value),vH P off fs l=true->Bz l (xs.drop off) (xs.drop off)=some true->xs.length=vx.size ->
  (∀(i:Nat) (c:AV) (v:Value),xs[i]?=some c->vx[i]?=some v->bR (Rd X φ w) φ c v) ->
  (forIn (m := Sem) fs NC (fun f _ => if f.name ≠ "_" then (do
    let z <- part f.type vx f.offset
    Instr.checkKey em (n+1) f.type z
    pure (Y4 NC)) else pure (Y4 NC))).run P w=.ok NC w
 |[],_,_,_,_,_,_,_,_=>rfl
 |f::fs,[],off,xs,vx,h,_,_,_=>by simp[vH] at h
 |f::fs,b::l,off,xs,vx,h,he,hl,hr=>by
   simp only[vH,ae,decide_eq_true_eq] at h;obtain⟨⟨⟨RL,Fb⟩,IZ⟩,PT⟩:=h
   have cell:∀(z:AV) (r:List AV),xs.drop off=z::r->(∃v,vx[off]?=some v)/\xs[off]?=some z/\xs.drop (off+1)=r:=by
    intro z r hd
    have h0:xs[off]?=some z:=by
     have h:=congrArg (·[0]?) hd;simp only[bk,SL,Cf] at h;exact h
    refine⟨cc (by have:=az h0; omega),h0,?_⟩;rw[<-List.tail_drop,hd]; rfl
   split at IZ
   ·rename_i k hu;subst IZ;have Ff:nA P f.type=some none:=by simp[nA,hu]
    have hna:=qB (P:=P) (w:=w) Ff;obtain⟨kx,a,r,b',s,e',hdx,_,hee,h9⟩:=R3 he;obtain⟨⟨vx0,hvx⟩,BQ,hx1⟩:=cell _ _ hdx;obtain rfl:=iD (hr off _ vx0 BQ hvx);obtain⟨k',hk'⟩:∃k',k'=k:=⟨k,rfl⟩
    have ih:=DI em n fs l (off+1) xs vx PT (by
     rw[hx1];rename_i H5
     have:s=r:=by
      have:=hdx.symm.trans ‹xs.drop off=.int kx b'::s›;simp at this;exact this.2.symm
     subst this;rw[hee];simp only[GQ,ae] at h9;rw[h9.2]) hl hr
    rw[List.forIn_cons]
    have ck:(Instr.checkKey em (n+1) f.type (.int kx a)).run P w=.ok () w:=by
     unfold Instr.checkKey;simp only[Sem.run_bind,run_underlying hu,Result.andThen_ok];rfl
    simp only[Fb,ne_eq,not_false_eq_true,if_true,part,Sem.run_bind,hna,Result.andThen_ok,bH,if_false,RL,hvx,Sem.run_pure,ck];exact ih
   ·rename_i hu;simp only[bN] at IZ;subst IZ;have Ff:nA P f.type=some none:=by simp[nA,hu]
    have hna:=qB (P:=P) (w:=w) Ff;obtain⟨a,r,b',s,e',hdx,_,hee,h9⟩:=MD he;obtain⟨⟨vx0,hvx⟩,BQ,hx1⟩:=cell _ _ hdx;obtain rfl:=o9 (hr off _ vx0 BQ hvx)
    have ih:=DI em n fs l (off+1) xs vx PT (by
     rw[hx1]
     have:s=r:=by
      have:=hdx.symm.trans ‹xs.drop off=.bool b'::s›;simp at this;exact this.2.symm
     subst this;rw[hee];simp only[GQ,ae] at h9;rw[h9.2]) hl hr
    rw[List.forIn_cons]
    have ck:(Instr.checkKey em (n+1) f.type (.bool a)).run P w=.ok () w:=by
     unfold Instr.checkKey;simp only[Sem.run_bind,run_underlying hu,Result.andThen_ok];rfl
    simp only[Fb,ne_eq,not_false_eq_true,if_true,part,Sem.run_bind,hna,Result.andThen_ok,bH,if_false,RL,hvx,Sem.run_pure,ck];exact ih
   ·cases IZ
theorem Qs {t:TypeId} {K:Kt} (hc:uH P t K=true) {x:AV} {u:Value} (rx:bR (Rd X φ w) φ x u) (hs:Bi K x x=some true) (em:Bool):(Instr.checkKey em 10000 t u).run P w=.ok () w:=by
 cases K with
 |kint k=>
   simp only[uH] at hc;split at hc
   ·rename_i k' hu;cases x<;>simp only[Bi] at hs<;>try (cases hs; done)
    cases rx;unfold Instr.checkKey;simp only[Sem.run_bind,run_underlying hu,Result.andThen_ok];rfl
   ·cases hc
 |Du=>
   simp only[uH] at hc;split at hc
   ·rename_i hu;cases x<;>simp only[Bi] at hs<;>try (cases hs; done)
    cases rx;unfold Instr.checkKey;simp only[Sem.run_bind,run_underlying hu,Result.andThen_ok];rfl
   ·cases hc
 |kst l=>
   simp only[uH] at hc;split at hc
   ·rename_i fs hu;simp only[ae,bN] at hc;cases x<;>simp only[Bi] at hs<;>try (cases hs; done)
    rename_i xs;cases rx with
    |agg _ _ vx hl hr=>
      have h:=DI (X:=X) (φ:=φ) (w:=w) em 9998 fs.toList l 0 xs vx hc.2 (by simpa using hs) hl hr;unfold Instr.checkKey;simp only[Sem.run_bind,run_underlying hu,Result.andThen_ok];simp only[Nat.reduceAdd] at h;rw[<-Array.forIn_toList,h];rfl
   ·cases hc
theorem EW {x:AV} {b:Nat} (h:mapOf x=some b):x=qp b:=by
 unfold mapOf at h;split at h
 ·simp only[af] at h; subst h; rfl
 ·cases h
theorem wY {R:Addr->Value->Prop} {b:Nat} {v:Value} (h:bR R φ (qp b) v):∃r,v=.map (some r)/\∀ g sz:Nat,φ[b]?=some (some (g,sz))->r=g/\sz=0:=by
 unfold qp at h;cases h with
 |func _ _ _ _ _ _ hy=>cases hy
 |Dg _ _ r hb h=>exact⟨r,rfl,h⟩
theorem afT (hh:cm X φ w H) {b:Nat} {cs:List AV} (hb:aH H b=some cs) {v:Value} (r:bR (Rd X φ w) φ (qp b) v):∃g es Ww,v=.map (some g)/\φ[b]?=some (some (g,0))/\w.heap[g]?=some (.map es Ww)/\¬ X g/\YS X φ w cs es.toList:=by
 obtain⟨g,rfl,hg⟩:=wY r;obtain⟨g',sz,arr,o,h1,h2,h3,h4,h5,h6⟩:=hh.at hb;obtain⟨rfl,rfl⟩:=hg g' sz h1;rcases h3 with⟨e,_,h3⟩|⟨es,Ww,rfl,_,rfl⟩
 ·omega
 ·refine⟨g,es,Ww,rfl,h1,h2,h5,by have:=h4.2 rfl; simpa using this,fun i c e hc he=>?_⟩;obtain⟨u,hu,r⟩:=h6 i c hc;rw[uS] at hu;rw[fo] at he;rw[he] at hu;simp only[cG,af] at hu;rw[<-hu] at r;exact r
theorem aie {t:TypeId} (fu:o.op=.makeMap t none) (hh:cm X φ w H):Ok P X φ w o a (qp H.length) (H++[some []]):=by
 obtain⟨h1,h2⟩:=hh.ana (w':=w.alloc (.map #[] 0)) rfl rfl rfl rfl (aJ _);refine Ok.value (v':=.map (some w.heap.size)) ?_ ?_ h1 h2
 ·have hm:(Instr.makeMap t none).run P w=.ok (.map (some w.heap.size)) (w.alloc (.map #[] 0)):=rfl;simp[execOp,fu,hm]
 ·refine .Dg _ _ _ (by simp[hh.len]) fun g sz hg=>?_;rw[<-hh.len] at hg;simp at hg;exact⟨hg.1,hg.2.symm⟩
theorem aii {t kt et:TypeId} {x k:Operand} {K:Kt} {ok:Bool} {z xv kv:AV} {b:Nat} {cs:List AV} {r:Option (Nat × AV)} (fu:o.op=.lookup t x k ok) (hh:cm X φ w H) (hu:P.underlying t=some (.map kt et)) (hc:uH P kt K=true) (hz:QL P et z=true)
  (rx:bR (Rd X φ w) φ xv (a.eval x)) (rk:bR (Rd X φ w) φ kv (a.eval k)) (hx:mapOf xv=some b) (hb:aH H b=some cs) (hs:Bi K kv kv=some true) (hf:iY K kv cs 0=some r):Ok P X φ w o a (mgv ok z r) H:=by
 obtain rfl:=EW hx;obtain⟨g,es,Ww,hv,jV,hg,hX,he⟩:=afT hh hb rx;obtain⟨q,hq,hfd⟩:=VJ hc rk hf he;have hck:=Qs hc rk hs es.isEmpty;unfold QL at hz;split at hz
 case h_2=>cases hz
 rename_i inf hi;split at hz
 case h_2=>cases hz
 rename_i zv hzv;have rz:=GG (R:=Rd X φ w) (ψ:=φ) hz
 have go:∀(v:Value),(match q with
   |some (_,v)=>(v,true)
   |none=>(zv,false))=(v,q.isSome)->(execOp a.eval o).run P w=.ok (.value (if ok then .tuple #[v,.bool q.isSome] else v)) w:=by
  intro v hvv;simp only[execOp,fu,hv,Instr.lookup,Sem.run_bind,run_underlying hu,Result.andThen_ok,MapKept.run_getObj_map hg,hck,hq,Sem.run_pure];cases q with
  |none=>
    simp only[aF] at hvv;obtain⟨rfl,_⟩:=hvv;simp[tR hi hzv]
  |some p=>
    obtain⟨n,u⟩:=p;simp only[aF] at hvv;obtain⟨rfl,_⟩:=hvv;simp
 cases r with
 |none=>
   obtain rfl:q=none:=hfd;refine Ok.quiet (go zv rfl) ?_ hh;cases ok
   ·exact rz
   ·exact EE rz (.bool _ _)
 |some p=>
   obtain⟨n,v⟩:=p;obtain⟨e,_,_,rfl,rv,_⟩:=hfd;refine Ok.quiet (go e.val rfl) ?_ hh;cases ok
   ·exact rv
   ·exact EE rv (.bool _ _)
theorem aid {t kt et:TypeId} {x k y:Operand} {K:Kt} {xv kv yv:AV} {b:Nat} {cs:List AV} {r:Option (Nat × AV)} (fu:o.op=.mapUpdate t x k y) (hh:cm X φ w H) (hu:P.underlying t=some (.map kt et)) (hc:uH P kt K=true)
  (rx:bR (Rd X φ w) φ xv (a.eval x)) (rk:bR (Rd X φ w) φ kv (a.eval k)) (ry:bR (Rd X φ w) φ yv (a.eval y)) (hx:mapOf xv=some b) (hb:aH H b=some cs) (hs:Bi K kv kv=some true) (hf:iY K kv cs 0=some r):Ok P X φ w o a .undef (H.set b (some (Dh kv yv cs r))):=by
 obtain rfl:=EW hx;obtain⟨g,es,Ww,hv,jV,hg,hX,he⟩:=afT hh hb rx;obtain⟨q,hq,hfd⟩:=VJ hc rk hf he;have hck:=Qs hc rk hs false;obtain⟨s1,s2⟩:=MapKept.heap_set (o':=Obj.map (es.push { key:=a.eval k,val:=a.eval y,born:=Ww }) (Ww+1)) hg;have ents:∀(i:Nat) (c:AV) (e:MapEntry),cs[i]?=some c->es[i]?=some e->bR (Rd X φ w) φ c (.tuple #[e.key,e.val]):=fun i c e h1 h2=>he.2 i c e h1 (by rw[fo]; exact h2);have hlen:cs.length=es.size:=by have:=he.1; simpa using this
 cases r with
 |none=>
   obtain rfl:q=none:=hfd
   obtain⟨h1,h2⟩:=hh.adO (b:=b) (g:=g) (w':={ w with heap:=w.heap.setIfInBounds g (Obj.map (es.push { key:=a.eval k,val:=a.eval y,born:=Ww }) (Ww+1)) }) (es':=es.push { key:=a.eval k,val:=a.eval y,born:=Ww }) (clk':=Ww+1) (cs':=Dh kv yv cs none) jV s1 s2 (by simp) rfl rfl rfl (aJ _) hX (by simp[Dh,hlen]) (fun i c hi=>by
    unfold Dh at hi;simp only at hi;rw[uS,Ci];by_cases bE:i<cs.length
    ·rw[aA bE] at hi;obtain⟨e,he'⟩:=cc (l:=es) (i:=i) (by omega);rw[if_neg (by omega),he'];exact⟨_,rfl,ents i c e hi he'⟩
    ·have xB:=az hi;simp at xB;have hie:i=cs.length:=by omega
     subst hie;rw[aL (aJ _)] at hi;simp at hi;subst hi;rw[if_pos hlen];exact⟨_,rfl,EE rk ry⟩)
   refine Ok.skip ?_ h1 h2;simp only[execOp,fu,hv,Instr.mapUpdate,Sem.run_bind,run_underlying hu,Result.andThen_ok,MapKept.run_getObj_map hg,hck,hq,MapKept.run_setObj_map _ hg];rfl
 |some p=>
   obtain⟨n,v⟩:=p;obtain⟨e,_,hen,rfl,rv,hkey,Mk⟩:=hfd;rw[Wz] at hen;have hen':es[n]?=some e:=by rw[<-fo]; exact hen
   obtain⟨s1,s2⟩:=MapKept.heap_set (o':=Obj.map (es.modify n fun e=>{ e with key:=a.eval k,val:=a.eval y }) Ww) hg
   obtain⟨h1,h2⟩:=hh.adO (b:=b) (g:=g) (w':={ w with heap:=w.heap.setIfInBounds g (Obj.map (es.modify n fun e=>{ e with key:=a.eval k,val:=a.eval y }) Ww) }) (es':=es.modify n fun e=>{ e with key:=a.eval k,val:=a.eval y }) (clk':=Ww) (cs':=Dh kv yv cs (some (n,v))) jV s1 s2 (by simp) rfl rfl rfl (aJ _) hX (by simp[Dh,hlen]) (fun i c hi=>by
    unfold Dh at hi;simp only at hi;rw[uS,Array.getElem?_modify];rw[aU] at hi;by_cases hni:n=i
    ·subst hni;rw[if_pos rfl] at hi ⊢;split at hi
     ·simp at hi;subst hi;rw[hen'];exact⟨_,rfl,EE rk ry⟩
     ·simp at hi
    ·rw[if_neg hni] at hi ⊢;obtain⟨e',he'⟩:=cc (l:=es) (i:=i) (by have:=az hi; omega);rw[he'];exact⟨_,rfl,ents i c e' hi he'⟩)
   refine Ok.skip ?_ h1 h2
   have hks:(Instr.keyThatStays (((es[n]?).map (·.key)).getD (a.eval k)) (a.eval k)).run P w=.ok (a.eval k) w:=by
    rw[hen'];simp only[cG,eJ,hkey,Instr.keyThatStays];rw[Mk 9999];simp
   simp only[execOp,fu,hv,Instr.mapUpdate,Sem.run_bind,run_underlying hu,Result.andThen_ok,MapKept.run_getObj_map hg,hck,hq,hks,MapKept.run_setObj_map _ hg];rfl
end
end Go.Am

/- Every operation; regions in the order of the text, and regions that draw their order. -/
namespace Go.Am
section
variable {P:Program} {c:eS} {X:Nat->Prop} {φ:dx} {w:World} {env:Env} {H:Heap} {a:Act} {o:Oper}

theorem anC {call:Nat->List AV->Heap->Option (AV × Heap)} (dy:Wl P c) (eH:GN P c call) (he:rH X φ w env a.tmps) (hg:eI c X φ w) (hh:cm X φ w H) {kd:Kd} {v:AV} {H':Heap} {fl:Fp}
  (hk:di P o.op kd=true) (hs:ga c call env H kd=some (v,H',fl)):Ok P X φ w o a v H':=by
 generalize fu:o.op=op at hk;unfold di at hk;split at hk
 case h_1=>
  simp[ga] at hs; obtain⟨rfl,rfl,_⟩:=hs;exact Ok.quiet (by simp[execOp,fu]) (cj he hg hk) hh
 case h_2=>
  simp[ga] at hs; obtain⟨rfl,rfl,_⟩:=hs;exact Ok.quiet (by simp[execOp,fu]) (cj he hg hk) hh
 case h_3=>
  simp only[ae] at hk;simp only[ga] at hs;split at hs
  case h_2=>cases hs
  rename_i t ht;simp at hs; obtain⟨rfl,rfl,_⟩:=hs;have r:=cj (a:=a) he hg hk.1.1;rw[ht] at r;exact aic fu hh r (cj he hg hk.1.2) (cj he hg hk.2)
 case h_4=>
  simp[ga] at hs; obtain⟨rfl,rfl,_⟩:=hs;exact Xn fu hh hk
 case h_5=>
  simp only[ga] at hs;split at hs
  case isFalse=>cases hs
  rename_i hl;simp at hs; obtain⟨rfl,rfl,_⟩:=hs;exact amc fu hh (cj he hg hk) hl
 case h_6=>
  simp only[ae] at hk;simp only[ga] at hs;split at hs
  case h_2=>cases hs
  rename_i cs hf;simp at hs; obtain⟨rfl,rfl,_⟩:=hs;exact afz fu hh he hg hk.1 hk.2 hf
 case h_7=>
  simp only[ae,decide_eq_true_eq] at hk;obtain⟨⟨⟨⟨h1,h2⟩,h3⟩,h4⟩,h5⟩:=hk;subst h1;simp only[ga] at hs;split at hs
  case h_2=>cases hs
  rename_i cs hf;split at hs
  case isFalse=>cases hs
  simp at hs; obtain⟨rfl,rfl,_⟩:=hs;exact ac2 fu hh he hg h2 h3 h4 h5 hf
 case h_8=>
  simp only[ae,decide_eq_true_eq] at hk;exact anF fu hh (cj he hg hk.2) hk.1 hs
 case h_9=>
  simp only[ae] at hk;simp only[ga] at hs;split at hs
  case h_2=>cases hs
  rename_i b off hb;split at hs
  case h_2=>cases hs
  rename_i cs dQ;split at hs
  case isFalse=>cases hs
  rename_i hc;simp at hs; obtain⟨rfl,rfl,_⟩:=hs;have r:=cj (a:=a) he hg hk.1.2;rw[hb] at r;exact afn fu hh dQ hk.1.1 r (cj he hg hk.2) hc.1 hc.2.1 hc.2.2
 case h_10=>exact afp fu hh (cj he hg hk) hs
 case h_11=>
  simp only[ae,decide_eq_true_eq] at hk;obtain⟨⟨h1,h2⟩,h3⟩:=hk;subst h1;simp only[ga] at hs;split at hs
  case h_2=>cases hs
  rename_i r hr;simp at hs; obtain⟨rfl,rfl,_⟩:=hs;exact amd fu hh (cj he hg h2) (cj he hg h3) hr
 case h_12=>
  simp only[ae] at hk;obtain⟨⟨⟨h1,h2⟩,h3⟩,h4⟩:=hk;simp only[ga] at hs;split at hs
  case h_2=>cases hs
  rename_i e hr;simp at hs; obtain⟨rfl,rfl,_⟩:=hs;have:=ok_eq fu hh h1 h2 (cj he hg h3) (cj he hg h4) hr;simpa using this
 case h_13=>
  simp only[ae,decide_eq_true_eq] at hk;obtain⟨h1,h2⟩:=hk;subst h1;simp only[ga] at hs;split at hs
  case h_2=>cases hs
  rename_i r hr;simp at hs; obtain⟨rfl,rfl,_⟩:=hs;exact anE fu hh (cj he hg h2) hr
 case h_14=>
  simp only[ae] at hk;obtain⟨⟨h1,h2⟩,h3⟩:=hk;split at h2
  case h_2=>cases h2
  rename_i k' hu;simp at h2;subst h2;simp only[ga] at hs;split at hs
  case h_2=>cases hs
  rename_i k2 n hn;simp at hs; obtain⟨rfl,rfl,_⟩:=hs;have r:=cj (a:=a) he hg h3;rw[hn] at r;exact ama fu hh h1 hu r
 case h_15=>
  simp only[ae,decide_eq_true_eq] at hk;obtain⟨⟨h1,h2⟩,h3⟩:=hk;subst h1;simp[ga] at hs; obtain⟨hyf,rfl,rfl,_⟩:=hs;exact alW fu hh he hg h2 h3 hyf
 case h_16=>
  simp only[ae] at hk;obtain⟨⟨⟨h1,h2⟩,h3⟩,h4⟩:=hk;simp only[ga] at hs;split at hs
  case h_2=>cases hs
  rename_i k1 l k2 cp hl hcp;split at hs
  case isFalse=>cases hs
  rename_i hc;simp at hs; obtain⟨rfl,rfl,_⟩:=hs;have r1:=cj (a:=a) he hg h3;have r2:=cj (a:=a) he hg h4;rw[hl] at r1;rw[hcp] at r2;exact alV fu hh h1 h2 r1 r2 hc.1 hc.2.1 hc.2.2
 case h_17=>
  simp only[ae] at hk;obtain⟨⟨⟨h1,h2⟩,h3⟩,h4⟩:=hk;exact alT fu hh he hg h1 h2 h3 h4 hs
 case h_18=>
  simp only[ae] at hk;exact al7 fu hh (cj he hg hk.2) hk.1 hs
 case h_19=>
  simp only[ae] at hk;exact al6 fu hh (cj he hg hk.2) hk.1 hs
 case h_20=>
  simp only[ae] at hk;exact al4 fu hh (cj he hg hk.1.2) (cj he hg hk.2) hk.1.1 hs
 case h_21=>
  simp only[ae] at hk;exact al3 fu hh (cj he hg hk.1.2) (cj he hg hk.2) hk.1.1 hs
 case h_22=>
  simp only[ae] at hk;exact anG fu hh (cj he hg hk.1.2) (cj he hg hk.2) hk.1.1 hs
 case h_23=>
  simp only[ae,decide_eq_true_eq] at hk;exact al0 fu hh (cj he hg hk.2) hk.1.1 hk.1.2 hs
 case h_24=>
  rename_i args argTypes k zs x;split at hk
  case h_2=>cases hk
  rename_i x' t h1 h2;simp only[ae] at hk;exact amb (x:=x') (t:=t) fu rfl (iw.1 h1) (iw.1 h2) hh (cj he hg hk.2) hk.1.1 hk.1.2 hs
 case h_25=>
  simp only[ae,decide_eq_true_eq] at hk;obtain⟨h1,h2⟩:=hk;subst h1;simp only[ga] at hs;split at hs
  case h_2=>cases hs
  rename_i vs hv;split at hs
  case h_2=>cases hs
  rename_i u hu;simp at hs; obtain⟨rfl,rfl,_⟩:=hs;have r:=cj (a:=a) he hg h2;rw[hv] at r;exact al8 fu hh r hu
 case h_26=>
  simp only[ae,decide_eq_true_eq] at hk;obtain⟨h1,h2⟩:=hk;subst h1;exact ail dy eH fu rfl hh he hg h2 hs
 case h_27=>
  simp only[ae] at hk;exact afx dy eH fu rfl hh he hg hk.1 hk.2 hs
 case h_28=>
  rename_i args argTypes y;split at hk
  case h_2=>cases hk
  rename_i x t h1 h2;simp only[ae] at hk;exact alY (x:=x) (t:=t) fu rfl (iw.1 h1) (iw.1 h2) hh (cj he hg hk.2) hk.1 hs
 case h_29=>
  rename_i args argTypes k x y;split at hk
  case h_2=>cases hk
  rename_i x' y' t t' h1 h2;simp only[ae,decide_eq_true_eq] at hk;obtain⟨⟨⟨h3,h4⟩,h5⟩,h6⟩:=hk;subst h3;exact amf (x:=x') (y:=y') (t:=t) fu rfl (iw.1 h1) (iw.1 h2) hh (cj he hg h5) (cj he hg h6) h4 hs
 case h_30=>
  simp only[ga] at hs;split at hs
  case h_2=>cases hs
  rename_i r hr;simp at hs; obtain⟨rfl,rfl,_⟩:=hs;exact afs (mx:=false) fu rfl hh he hg hk hr
 case h_31=>
  simp only[ga] at hs;split at hs
  case h_2=>cases hs
  rename_i r hr;simp at hs; obtain⟨rfl,rfl,_⟩:=hs;exact afs (mx:=true) fu rfl hh he hg hk hr
 case h_32=>
  simp only[ae] at hk;exact ame fu hh he hg hk.2.2 (cj he hg hk.2.1) hk.1 hs
 case h_33=>
  rename_i args argTypes k x y;split at hk
  case h_2=>cases hk
  rename_i x' y' t t' h1 h2;simp only[ae] at hk;exact aik (x:=x') (y:=y') (t:=t) (t':=t') fu rfl (iw.1 h1) (iw.1 h2) hh (cj he hg hk.1.2) (cj he hg hk.2) hk.1.1 hs
 case h_34=>
  simp only[ga,af,aF] at hs; obtain⟨rfl,rfl,_⟩:=hs;exact aie fu hh
 case h_35=>
  simp only[ae,decide_eq_true_eq] at hk;obtain⟨⟨⟨rfl,h2⟩,h3⟩,h4⟩:=hk;split at h2
  case h_2=>cases h2
  rename_i key el hu;simp only[ae] at h2;simp only[ga] at hs;split at hs
  case h_2=>cases hs
  rename_i b hb;split at hs
  case h_2=>cases hs
  rename_i es hes;split at hs
  case isFalse=>cases hs
  rename_i hkq;split at hs
  case h_2=>cases hs
  rename_i r hr;simp only[af,aF] at hs; obtain⟨rfl,rfl,_⟩:=hs;exact aii fu hh hu h2.1 h2.2 (cj he hg h3) (cj he hg h4) hb hes hkq hr
 case h_36=>
  simp only[ae] at hk;obtain⟨⟨⟨h2,h3⟩,h4⟩,h5⟩:=hk;split at h2
  case h_2=>cases h2
  rename_i key el hu;simp only[ga] at hs;split at hs
  case h_2=>cases hs
  rename_i b hb;split at hs
  case h_2=>cases hs
  rename_i es hes;split at hs
  case isFalse=>cases hs
  rename_i hkq;split at hs
  case h_2=>cases hs
  rename_i r hr;simp only[af,aF] at hs; obtain⟨rfl,rfl,_⟩:=hs;exact aid fu hh hu h2 (cj he hg h3) (cj he hg h4) (cj he hg h5) hb hes hkq hr
 case h_37=>cases hs
 case h_38=>cases hk

structure SRel (X:Nat->Prop) (φ:dx) (w:World) (s:St) (a:Act) (N:Nat):Prop where
 env:rH X φ w s.env a.tmps
 heap:cm X φ w s.H
 defers:a.defers=[]
 size:a.tmps.size=N

theorem ae1 (a:Act) (d:Option Nat) (v:Value):(a.put d v).tmps.size=a.tmps.size/\(a.put d v).defers=a.defers:=by cases d<;>simp[Act.put]
theorem SRel.put {s:St} {N:Nat} {φ':dx} {w':World} {d:Option Nat} {v:AV} {v':Value} {H':Heap} (h:SRel X φ w s a N) (hd:∀i,d=some i->i<N) (r:bR (Rd X φ' w') φ' v v') (hh:cm X φ' w' H') (k:ft φ w φ' w') :
  SRel X φ' w' ⟨wi s.env d v,H'⟩ (a.put d v') N:=by
 obtain⟨h1,h2⟩:=ae1 a d v';refine⟨?_,hh,by rw[h2]; exact h.defers,by rw[h1]; exact h.size⟩;cases d with
 |none=>exact h.env.oN k
 |some i=>exact (h.env.oN k).put (by rw[h.size]; exact hd i rfl) r
theorem adj {ts:Array Value} {g:Nat} {b:Bool} (h:ts.getD g undef=.bool b):ts[g]?=some (.bool b):=by
 rw[bm] at h;cases hg:ts[g]? with
 |none=>rw[hg] at h; simp[undef] at h
 |some v=>rw[hg] at h; simp at h; rw[h]
theorem Yf {ts:Array Value} {g:Nat} (h:ts.getD g undef=.tuple #[]):ts[g]?=none\/ts[g]?=some (.tuple #[]):=by
 rw[bm] at h;cases hg:ts[g]? with
 |none=>exact .inl rfl
 |some v=>rw[hg] at h; simp at h; rw[h]; exact .inr rfl

end
end Go.Am

/- Regions that draw their order: the order makes no difference. -/
namespace Go.Am
section
variable {P:Program} {c:eS} {call:Nat->List AV->Heap->Option (AV × Heap)}

theorem iA {e1 e2:Env} {x:E} (h:∀i∈x.slot,get e1 i=get e2 i):ev c e1 x=ev c e2 x:=by
 cases x with
 |t i=>exact h i (by simp[E.slot])
 |k x=>rfl
 |g i=>rfl
theorem DK {e1 e2:Env} {d m:Nat} {x:Option E} (h:∀i∈Oy x,get e1 i=get e2 i):Fy c e1 d m x=Fy c e2 d m x:=by
 cases x with
 |none=>rfl
 |some x=>simp only[Fy]; rw[iA h]
theorem M3 {H:Heap} {b b':Nat} {x:Wy} (h:b≠b'):aH (H.set b x) b'=aH H b':=by
 unfold aH; rw[cT h]
def GM (fp:Fp) (H H':Heap) (v:AV) (f:Heap->Option (AV × Heap × Fp)):Prop:=
 (fp=.no->H'=H/\∀ H2,f H2=some (v,H2,.no))/\(∀b,fp=.rd b->H'=H/\∀ H2,aH H2 b=aH H b->f H2=some (v,H2,.rd b))/\(fp=.ra->H'=H) /\
 (∀n bs,fp=.wr n bs->∀b,b<n->b∉bs->aH H' b=aH H b)
theorem GM.ra {H:Heap} {v:AV} {f:Heap->Option (AV × Heap × Fp)}:GM .ra H H v f:=
 ⟨(fun h=>by cases h),(fun b h=>by cases h),fun _=>rfl,(fun n bs h=>by cases h)⟩
theorem GM.wr {H H':Heap} {v:AV} {n:Nat} {bs:List Nat} {f:Heap->Option (AV × Heap × Fp)} (h:∀b,b<n->b∉bs->aH H' b=aH H b):GM (.wr n bs) H H' v f:=
 ⟨(fun h=>by cases h),(fun b h=>by cases h),(fun h=>by cases h),fun n' bs' e=>by cases e; exact h⟩
theorem mem_iff {i:Nat}:∀{l:List Nat},mem i l=true ↔ i∈l
 |[]=>by simp[mem]
 |j::r=>by
   unfold mem;split
   ·rename_i h; simp[h]
   ·rename_i h; rw[mem_iff]; simp[h]
inductive Anc (ops:Array Oper) (i:Nat):Nat->Prop
 |one {j:Nat} {o:Oper} (ho:ops[j]?=some o) (h:i∈direct o):Anc ops i j
 |via {j k:Nat} {o:Oper} (ho:ops[j]?=some o) (h:k∈direct o) (ha:Anc ops i k):Anc ops i j
theorem Dn {o:Oper} {i:Nat}:i∈direct o ↔ ∃e∈o.after,Region.binds .any e=true/\e.on=i:=by
 unfold direct;simp only[List.mem_map,List.mem_filter,WH];constructor
 ·rintro⟨e,⟨h1,h2⟩,h3⟩; exact⟨e,h1,h2,h3⟩
 ·rintro⟨e,h1,h2,h3⟩; exact⟨e,⟨h1,h2⟩,h3⟩
def YX (ops:Array Oper) (listed:Array Bool):Prop:=∀j o,ops[j]?=some o->listed.getD j false=true->∀i∈direct o,listed.getD i false=true
theorem YX.Fz {ops:Array Oper} {listed:Array Bool} (h:YX ops listed) {i j:Nat} (ha:Anc ops i j):∀o,ops[j]?=some o->(∀k∈direct o,listed.getD k false=true)->listed.getD i false=true:=by
 induction ha with
 |one ho hm=>intro o ho' hd; rw[ho] at ho'; cases ho'; exact hd _ hm
 |via ho hm ha ih=>
   intro o ho' hd;rw[ho] at ho';cases ho';have hk:=hd _ hm;cases ha with
   |one ho2 hm2=>exact h _ _ ho2 hk _ hm2
   |via ho2 hm2 ha2=>exact ih _ ho2 fun l hl=>h _ _ ho2 hk l hl
def ahr (ops:Array Oper) (Fz:List (List Nat)):Prop:=∀j l,Fz[j]?=some l->∀i∈l,Anc ops i j
theorem BA {i:Nat}:∀{l:List Nat},i∈dedup l->i∈l
 |[],h=>by simp[dedup] at h
 |x::r,h=>by
   unfold dedup at h;split at h
   ·exact cK _ (BA h)
   ·rcases aO.1 h with h|h
    ·subst h; simp
    ·exact cK _ (BA h)
theorem Wc {ops:Array Oper} {Fz:List (List Nat)} (h:ahr ops Fz) {j:Nat} {o:Oper} (ho:ops[j]?=some o):∀i∈Ni Fz o,Anc ops i j:=by
 intro i hi;unfold Ni at hi;rcases List.mem_append.1 (BA hi) with hi|hi
 ·exact .one ho hi
 ·obtain⟨k,hk,wS⟩:=List.mem_flatMap.1 hi;refine .via ho (BA hk) ?_;rw[List.getD_eq_getElem?_getD] at wS;cases hl:Fz[k]? with
  |none=>rw[hl] at wS; simp at wS
  |some l=>rw[hl] at wS; exact h k l hl i wS
end
end Go.Am

/- A run of the compact code is a run of the dump's code; calls; the theorem that ties a call to the kit's 'Calls'. -/
namespace Go.Am
section
variable {P:Program} {c:eS}

def Ex.to:Ex->Exit
 |.normal=>.normal
 |.exit id=>.exit id
 |.ret=>.ret

def LW (P:Program) (cd:Code) (Q:Exit->Act->World->Prop) (a:Act) (w:World):Prop:=
 ∀ (b:Frame) (k:List Item) (cs:List Frame),∃e a' w',Q e a' w'/\Arrives P (lone (b.at a (.code cd::.inLoop cd::k)) cs w) b k cs e a' w'
theorem LW.loop {cd:Code} {Q:Exit->Act->World->Prop} {a:Act} {w:World} (h:LW P cd Q a w):(Code.loop cd).wp P Q a w:=by
 intro b k cs;obtain⟨e,a',w',hq,Vx⟩:=h b k cs;exact⟨e,a',w',hq,.of_steps (.one step_loop) Vx⟩
theorem LW.step {cd:Code} {Q:Exit->Act->World->Prop} {a:Act} {w:World} (h:cd.wp P (Exit.then (LW P cd Q) Q) a w):LW P cd Q a w:=by
 intro b k cs;obtain⟨e,a1,w1,hq,Vx⟩:=h b (.inLoop cd::k) cs;cases e with
 |normal=>
   obtain⟨e2,a2,w2,hq2,an2⟩:=hq b k cs;exact⟨e2,a2,w2,hq2,.of_steps (Steps.trans Vx (.one step_inLoop)) an2⟩
 |exit id=>exact⟨_,a1,w1,hq,.pass (x:=.inLoop cd) rfl (fun _ _=>.inl (by simp)) Vx⟩
 |goto l=>exact⟨_,a1,w1,hq,.pass (x:=.inLoop cd) rfl (fun _ _=>.inl (by simp)) Vx⟩
 |ret=>exact⟨_,a1,w1,hq,.pass (x:=.inLoop cd) rfl (fun _ _=>.inl (by simp)) Vx⟩
 |panic ch=>exact⟨_,a1,w1,hq,.pass (x:=.inLoop cd) rfl (fun _ _=>.inl (by simp)) Vx⟩
 |outgrown=>exact⟨_,a1,w1,hq,.pass (x:=.inLoop cd) rfl (fun _ _=>.inl (by simp)) Vx⟩

theorem tD:∀(args:List AV) (k i:Nat),get (dP k args) i=if k<=i then args[i-k]?.getD .any else .any
 |[],k,i=>by simp[dP,get]
 |x::r,k,i=>by
   simp only[dP,get];by_cases h:i=k
   ·subst h; simp
   ·rw[if_neg h,tD r (k+1) i];by_cases h2:k+1<=i
    ·rw[if_pos h2,if_pos (by omega),show i-k=(i-(k+1))+1 by omega,p9]
    ·rw[if_neg h2,if_neg (by omega)]
theorem ad9 {X:Nat->Prop} {φ:dx} {w:World} {s:St} {ts:Array Value} (he:rH X φ w s.env ts) (hh:cm X φ w s.H):∀{rs:List ResultVar} {qs:List Rv} {xs:List AV},Ii P rs qs=true->Td s.H s.env qs=some xs ->
  ∃ vs:List Value,(rs.mapM (m:=Sem) fun
   |.tmp t=>pure (ts.getD t undef)
   |.cell a t=>do loadVar t (<- asAddr (ts.getD a undef))).run P w=.ok vs w/\Cs X φ w xs vs
 |[],[],xs,_,h=>by simp[Td] at h; subst h; exact⟨[],rfl,rfl,fun i c v hc=>by simp at hc⟩
 |[],_::_,_,h,_=>by simp[Ii] at h
 |_::_,[],_,h,_=>by simp[Ii] at h
 |r::rs,q::qs,xs,h,hx=>by
   simp only[Ii,ae] at h;simp only[Td] at hx;split at hx
   case h_2=>cases hx
   rename_i x ys h1 h2;simp at hx;subst hx;obtain⟨vs,e1,e2⟩:=ad9 he hh h.2 h2
   have one:∃v,(match r with
    |.tmp t=>pure (ts.getD t undef)
    |.cell a t=>do loadVar t (<- asAddr (ts.getD a undef)):Sem Value).run P w=.ok v w/\bR (Rd X φ w) φ x v:=by
    have hr:=h.1;unfold chkR at hr;split at hr
    ·rename_i t i;simp at hr;subst hr;simp[resA] at h1;subst h1;exact⟨_,rfl,he _⟩
    ·rename_i a t i ag;simp only[ae,decide_eq_true_eq] at hr;obtain⟨rfl,Ff⟩:=hr;have r:=he a;simp only[resA] at h1;split at h1
     ·rename_i b off hg;split at h1
      case h_2=>cases h1
      rename_i cs dQ;rw[hg] at r;obtain⟨g,sz,arr,e,h3,_,_,_,_,_,_,h4⟩:=SJ.Xr hh dQ r;obtain⟨u,h5,h6⟩:=Rs Ff h1 h4;exact⟨u,by simp[h3,asAddr,h5],h6⟩
     ·rename_i cs hg;rw[hg] at r;obtain⟨ad,h3,h4⟩:=SJ.abm r;obtain⟨u,h5,h6⟩:=Rs Ff h1 h4;exact⟨u,by simp[h3,asAddr,h5],h6⟩
     ·cases h1
    ·cases hr
   obtain⟨v,e3,e4⟩:=one;refine⟨v::vs,?_,by simp[e2.1],fun i c u hc hu=>?_⟩
   ·simp only[List.mapM_cons,Sem.run_bind,Sem.run_pure];rw[e3];simp only[Result.andThen_ok];rw[e1];simp only[Result.andThen_ok]
   ·cases i with
    |zero=>simp at hc hu; subst hc; subst hu; exact e4
    |succ i=>simp at hc hu; exact e2.2 i c u hc hu
theorem GV {X:Nat->Prop} {φ:dx} {w:World} {s:St} {ts:Array Value} {fn:Func} {qs:List Rv} {xs:List AV} (he:rH X φ w s.env ts) (hh:cm X φ w s.H) (hc:Ii P fn.results.toList qs=true) (hx:Td s.H s.env qs=some xs) :
  ∃ v,(results fn ts).run P w=.ok v w/\bR (Rd X φ w) φ (qQ xs) v:=by
 obtain⟨vs,h1,h2⟩:=ad9 (P:=P) he hh hc hx
 have h3:(fn.results.mapM (m:=Sem) fun
   |.tmp t=>pure (ts.getD t undef)
   |.cell a t=>do loadVar t (<- asAddr (ts.getD a undef))).run P w=.ok vs.toArray w:=by
  rw[<-BM (xs:=fn.results),List.mapM_toArray];simp only[Sem.run_map];rw[h1];simp only[Result.andThen_ok]
 have h4:(results fn ts).run P w=(Result.ok vs.toArray w).andThen (fun (a:Array Value) w'=>(pure (if h:a.size=1 then a[0] else .tuple a):Sem Value).run P w'):=by
  unfold results;simp only[Sem.run_bind];exact congrArg (fun z=>Result.andThen z _) h3
 rw[h4];simp only[Result.andThen_ok,Sem.run_pure];refine⟨_,rfl,?_⟩;obtain⟨hl,hr⟩:=h2
 match xs,vs,hl,hr with
 |[],[],_,_=>exact .dR _ _ _ rfl fun i c v hc=>by simp at hc
 |[x],[v],_,hr=>exact hr 0 x v rfl rfl
 |x::y::xs,v::u::vs,hl,hr=>
   have e:¬((v::u::vs).toArray.size=1):=by simp
   rw[dif_neg e];exact .dR _ _ _ (by simpa using hl) fun i c z hc hz=>hr i c z hc (by simpa using hz)

end
end Go.Am
