/- An abstract machine, and its soundness against the model. -/
import Derived.WalkKit
import Derived.Laws.StructEq
import Derived.Laws.MakeOwn
import Derived.Scope
set_option linter.unusedVariables false
/- The abstract machine: values by value, a small heap of own blocks, and an interpreter with fuel for the compact code. -/
open Array renaming getD_eq_getD_getElem? → bn, getElem?_append_left → uf, getElem?_eq_getElem → Nj, getElem?_eq_some_iff → dS, getElem?_push → XZ, getElem?_toList → kF, length_toList → sg, map → H9, mem_toList_iff → V7, range → Br, toArray_toList → Bq, toList_inj → iL
open Bool renaming and_eq_true → ae, false_eq_true → bz, not_eq_true' → bR
open List renaming append_assoc → du, eq_nil_of_length_eq_zero → dC, ext_getElem? → eT, getElem?_append_left → aB, getElem?_append_right → aR, getElem?_cons_succ → nZ, getElem?_drop → br, getElem?_map → ct, getElem?_of_mem → bH, getElem?_set → bg, getElem?_set_ne → bT, getElem?_take → bN, getElem?_take_of_lt → bm, getElem?_toArray → AJ, length_append → bV, length_cons → cN, length_drop → eS, length_take → bF, map_cons → kA, mem_cons → aK, mem_cons_of_mem → dh, size_toArray → uR
open Nat renaming add_mul → cT, add_zero → VY, le_refl → aY, le_trans → Mu, lt_of_lt_of_le → ff, mul_le_mul_right → bS
open Option renaming isSome_iff_exists → aV, map_none → It
open Option.some renaming injEq → ai
open Prod.mk renaming injEq → aP
namespace Go.Am

inductive Rt where
 |s (i:Nat)|sc (i j:Nat)|c (b j:Nat)
 deriving DecidableEq,Inhabited
inductive AV where
 |any|undef|gq|gz|dO
 |int (k:IntKind) (n:Int)
 |bool (b:Bool)
 |str (s:ByteArray)
 |agg (cs:List AV)
 |dJ (vs:List AV)
 |list (k:Nat) (xs:List AV)
 |dV (cs:List AV)
 |ptr (b off:Nat)
 |sl (k b off len:Nat)
 |func (fn:Fn) (first caps:List AV)
 |own (k:Nat) (xs:List AV)
 |eE (k:Nat) (p:Rt) (off len:Nat)
 |fP (k:Nat) (p:Rt) (i off:Nat)
 deriving Inhabited

abbrev XT:=Option (List AV)
abbrev Heap:=List XT
abbrev Env:=List (Nat × AV)

def jx:Nat:=4294967296

def get:Env->Nat->AV
 |[],_=>.any
 |(j,u)::r,i=>if i=j then u else get r i
def put:Env->Nat->AV->Env
 |[],i,v=>[(i,v)]
 |(j,u)::r,i,v=>if i<j then (i,v)::(j,u)::r else if i=j then (i,v)::r else (j,u)::put r i v
def mem:Nat->List Nat->Bool
 |_,[]=>false
 |i,j::r=>if i=j then true else mem i r
def td (keep:List Nat):Env->Env
 |[]=>[]
 |(j,u)::r=>if mem j keep then (j,u)::td keep r else td keep r
def vA (env:Env) (d:Option Nat) (v:AV):Env:=
 match d with
 |some d=>put env d v
 |none=>env
def eC:Nat->List AV->Env
 |_,[]=>[]
 |i,a::r=>(i,a)::eC (i+1) r

def AV.cells:AV->List AV
 |.agg cs=>cs
 |x=>[x]
def AV.leaf:AV->Bool
 |.any|.undef|.agg _|.dJ _=>false
 |_=>true
def bG:List AV->Bool
 |[]=>true
 |x::r=>x.leaf&&bG r

mutual
def AV.plain:AV->Bool
 |.ptr _ _|.sl _ _ _ _=>false
 |.agg cs=>uG cs
 |.dJ cs=>uG cs
 |.func _ a b=>uG a&&uG b
 |_=>true
def uG:List AV->Bool
 |[]=>true
 |x::r=>x.plain&&uG r
end
mutual
def AV.flat:AV->Bool
 |.ptr _ _|.sl _ _ _ _|.list _ _|.dV _=>false
 |.agg cs=>LG cs
 |.dJ cs=>LG cs
 |.func _ a b=>LG a&&LG b
 |_=>true
def LG:List AV->Bool
 |[]=>true
 |x::r=>x.flat&&LG r
end
mutual
def AV.zd (n:Nat):AV->Bool
 |.ptr b _=>decide (b<n)
 |.sl _ b _ _=>decide (b<n)
 |.agg cs=>rR n cs
 |.dJ cs=>rR n cs
 |.func _ a b=>rR n a&&rR n b
 |_=>true
def rR (n:Nat):List AV->Bool
 |[]=>true
 |x::r=>x.zd n&&rR n r
end
def Dz (n:Nat):Heap->Bool
 |[]=>true
 |none::r=>Dz n r
 |some cs::r=>rR n cs&&Dz n r

def aO (H:Heap) (b:Nat):Option (List AV):=
 match H[b]? with
 |some (some cs)=>some cs
 |_=>none
def el:List AV->AV
 |[.agg cs]=>.agg [.agg cs]
 |[x]=>x
 |cs=>.agg cs
def VU (k:Nat):Nat->List AV->List AV
 |0,_=>[]
 |n+1,cs=>el (cs.take k)::VU k n (cs.drop k)
def Gb (f:AV->Option (AV × List Nat)):List AV->Option (List AV × List Nat)
 |[]=>some ([],[])
 |x::r=>match f x,Gb f r with
   |some (y,b),some (ys,bs)=>some (y::ys,b++bs)
   |_,_=>none
def GB (H:Heap):Nat->AV->Option (AV × List Nat)
 |0,_=>none
 |n+1,x=>match x with
   |.ptr b off=>match aO H b with
     |some cs=>match Gb (GB H n) (cs.drop off) with
       |some (ys,bs)=>some (.dV ys,b::bs)
       |none=>none
     |none=>none
   |.sl k b off len=>match aO H b with
     |some cs=>if off+len*k<=cs.length then
       match Gb (GB H n) ((cs.drop off).take (len*k)) with
       |some (ys,bs)=>some (.list k (VU k len ys),b::bs)
       |none=>none
       else none
     |none=>none
   |.agg cs=>match Gb (GB H n) cs with
     |some (ys,bs)=>some (.agg ys,bs)
     |none=>none
   |.dJ cs=>match Gb (GB H n) cs with
     |some (ys,bs)=>some (.dJ ys,bs)
     |none=>none
   |.func f a c=>match Gb (GB H n) a,Gb (GB H n) c with
     |some (ys,bs),some (zs,cs)=>some (.func f ys zs,bs++cs)
     |_,_=>none
   |x=>some (x,[])
def aa9 (n:Nat):List Nat->Bool
 |[]=>true
 |b::r=>decide (n<=b)&&aa9 n r
def kill:Heap->List Nat->Heap
 |H,[]=>H
 |H,b::r=>kill (H.set b none) r
def XQ:Nat:=8

inductive E where
 |t (i:Nat)|k (x:AV)|g (i:Nat)
 deriving Inhabited

inductive Et where
 |bool|str (ints:List Bool)|WN|Kz|nfn
 deriving Inhabited

inductive Kd where
 |mv (x:E)|pick (c a b:E)
 |new (zs:List AV)|box (x:E)
 |build (zs:List AV) (parts:List (Nat × Nat × E))
 |dK (k n:Nat) (zs:List AV) (parts:List (Nat × Nat × E))
 |ld (ag:Option Nat) (x:E)|st (k:Nat) (a v:E)
 |nK (x:E)
 |bin (op:BinOp) (x y:E)|eq (neg:Bool) (t:Et) (x y:E)|un (op:UnOp) (x:E)|HX (k:IntKind) (x:E)
 |VP (fn:Fn) (first caps:List E)
 |KR (k:Nat) (zs:List AV) (len cap:E)
 |D5 (k:Nat) (x:E) (lo hi:Option E)
 |fk (off:Nat) (x:E)|Nd (n:Nat) (x:E) (hi:Option E)|fld (off:Nat) (ag:Option Nat) (x:E)
 |fm (k:Nat) (x i:E)|Ig (n k:Nat) (x i:E)|ix (n k:Nat) (ag:Option Nat) (x i:E)
 |ext (i:Nat) (x:E)
 |call (f:Nat) (args:List E)|jM (x:E) (args:List E)
 |ixs (tab:List Nat) (i:E)|Vv (k:Nat) (zs:List AV) (x:E)
 |len (x:E)|app (k:Nat) (x y:E)|min (xs:List E)|max (xs:List E)|copy (k:Nat) (x y:E)
 |bad
 deriving Inhabited

structure O where
 dst:Option Nat
 guard:Option (Nat × Bool)
 kd:Kd
 deriving Inhabited

def E.slot:E->List Nat
 |.t i=>[i]
 |_=>[]
def n9:List E->List Nat
 |[]=>[]
 |x::r=>x.slot++n9 r
def sN:List (Nat × Nat × E)->List Nat
 |[]=>[]
 |p::r=>p.2.2.slot++sN r
def Ny:Option E->List Nat
 |some x=>x.slot
 |none=>[]
def Kd.reads:Kd->List Nat
 |.mv x|.box x|.ld _ x|.nK x|.un _ x|.HX _ x|.fk _ x|.fld _ _ x|.ext _ x|.len x=>x.slot
 |.pick c a b=>c.slot++(a.slot++b.slot)
 |.new _=>[]
 |.bad=>[]
 |.ixs _ i=>i.slot
 |.Vv _ _ x=>x.slot
 |.build _ ps|.dK _ _ _ ps=>sN ps
 |.st _ x y|.bin _ x y|.eq _ _ x y|.KR _ _ x y|.fm _ x y|.Ig _ _ x y|.ix _ _ _ x y|.app _ x y|.copy _ x y=>x.slot++y.slot
 |.VP _ a b=>n9 a++n9 b
 |.D5 _ x lo hi=>x.slot++(Ny lo++Ny hi)
 |.Nd _ x hi=>x.slot++Ny hi
 |.call _ xs|.min xs|.max xs=>n9 xs
 |.jM x xs=>x.slot++n9 xs
def Kd.pure:Kd->Bool
 |.mv _|.pick _ _ _|.build _ _|.nK _|.bin _ _ _|.eq _ _ _ _|.un _ _|.HX _ _|.VP _ _ _|.D5 _ _ _ _|.fk _ _|.fld _ _ _|.fm _ _ _|.Ig _ _ _ _|.ix _ _ _ _ _|.ext _ _|.ixs _ _|.len _|.min _|.max _=>true
 |_=>false
def O.reads (o:O):List Nat:=(match o.guard with
 |some (g,_)=>[g]
 |none=>[])++o.kd.reads

inductive Fp where
 |no|rd (b:Nat)|ra|wr (n:Nat) (bs:List Nat)
 deriving Inhabited
def Fp.ok:Fp->Fp->Bool
 |.no,_=>true
 |_,.no=>true
 |.rd _,.rd _=>true
 |.rd _,.ra=>true
 |.ra,.rd _=>true
 |.ra,.ra=>true
 |.rd b,.wr n bs=>decide (b<n)&&!mem b bs
 |.wr n bs,.rd b=>decide (b<n)&&!mem b bs
 |_,_=>false

inductive C where
 |skip|ret|exit (id:Nat)
 |aN (os:List O) (dr:Bool) (un:List (Nat × Nat)) (keep:List Nat)
 |seq (a b:C)|cond (c:E) (a b:C)|aO (id:Nat) (b:C)|loop (b:C)
 deriving Inhabited

inductive Md where|P|T|K
 deriving Inhabited
inductive Rv where|t (i:Nat)|c (i:Nat) (ag:Option Nat)
 deriving Inhabited
structure fK where
 n:Nat
 np:Nat
 res:List Rv
 body:C
 deriving Inhabited
structure fe where
 fn:Nat->Option (Md × fK)
 gl:Nat->List AV
 orc:Nat->Option (List AV->Heap->Option (AV × Heap))

inductive Ex where|normal|exit (id:Nat)|ret
 deriving Inhabited
structure St where
 env:Env
 H:Heap
 deriving Inhabited

def ev (c:fe) (env:Env):E->AV
 |.t i=>get env i
 |.k x=>x
 |.g i=>.dV (c.gl i)
def IW (c:fe) (env:Env):List E->List AV
 |[]=>[]
 |x::r=>ev c env x::IW c env r

def FN (ag:Option Nat) (cs:List AV):Option AV:=
 match ag with
 |some k=>if k<=cs.length then some (.agg (cs.take k)) else none
 |none=>cs.head?
def kg (cs:List AV) (off:Nat) (vs:List AV):List AV:=cs.take off++vs++cs.drop (off+vs.length)
def idx (x:AV) (len:Nat):Option Nat:=
 match x with
 |.int _ i=>if 0<=i/\i<(len:Int) then some i.toNat else none
 |_=>none
def bnd (x:AV) (hi:Nat):Option Nat:=
 match x with
 |.int _ i=>if 0<=i/\i<=(hi:Int) then some i.toNat else none
 |_=>none
def Ft (c:fe) (env:Env) (dflt hi:Nat):Option E->Option Nat
 |none=>some dflt
 |some x=>bnd (ev c env x) hi
def qa (c:fe) (env:Env):List AV->List (Nat × Nat × E)->Option (List AV)
 |zs,[]=>some zs
 |zs,(off,sz,x)::r=>
   if (ev c env x).cells.length=sz/\off+sz<=zs.length/\bG (ev c env x).cells=true then qa c env (kg zs off (ev c env x).cells) r else none

def arith (op:BinOp) (k:IntKind) (x y:Int):Option AV:=
 match op with
 |.add=>some (.int k (k.wrap (x+y)))
 |.sub=>some (.int k (k.wrap (x-y)))
 |.mul=>some (.int k (k.wrap (x*y)))
 |.quo=>if y=0 then none else some (.int k (k.wrap (x.tdiv y)))
 |.rem=>if y=0 then none else some (.int k (x.tmod y))
 |.and=>some (.int k (bits .and k x y))
 |.or=>some (.int k (bits .or k x y))
 |.xor=>some (.int k (bits .xor k x y))
 |.andNot=>some (.int k (bits .andNot k x y))
 |.eql=>some (.bool (x == y))
 |.neq=>some (.bool (x != y))
 |.lss=>some (.bool (decide (x<y)))
 |.leq=>some (.bool (decide (x<=y)))
 |.gtr=>some (.bool (decide (y<x)))
 |.geq=>some (.bool (decide (y<=x)))
 |_=>none
def Fi:List Bool->List AV->List AV->Option Bool
 |[],[],[]=>some true
 |true::l,.int k a::r,.int k' b::s=>if k=k' then match Fi l r s with
   |some e=>some (a == b&&e)
   |none=>none
   else none
 |false::l,.bool a::r,.bool b::s=>match Fi l r s with
   |some e=>some (a == b&&e)
   |none=>none
 |_,_,_=>none
def isNil:Et->AV->Option Bool
 |.WN,.dO=>some true
 |.WN,.sl _ _ _ _=>some false
 |.WN,.list _ (_::_)=>some false
 |.Kz,.gq=>some true
 |.Kz,.ptr _ _=>some false
 |.Kz,.dV _=>some false
 |.nfn,.gz=>some true
 |.nfn,.func _ _ _=>some false
 |_,_=>none
def eqA:Et->AV->AV->Option Bool
 |.bool,.bool a,.bool b=>some (a == b)
 |.str l,.agg xs,.agg ys=>Fi l xs ys
 |.WN,x,.dO=>isNil .WN x
 |.Kz,x,.gq=>isNil .Kz x
 |.nfn,x,.gz=>isNil .nfn x
 |_,_,_=>none
def kr (op:BinOp) (x y:AV):Option AV:=
 match x,y with
 |.int k a,.int k' b=>match op with
   |.shl=>if b<0 then none else some (.int k (k.wrap (a*2 ^ (min b.toNat k.bits))))
   |.shr=>if b<0 then none else some (.int k (a.fdiv (2 ^ (min b.toNat k.bits))))
   |op=>if k=k' then arith op k a b else none
 |_,_=>none
def We (op:UnOp) (x:AV):Option AV:=
 match op,x with
 |.neg,.int k n=>some (.int k (k.wrap (0-n)))
 |.xor,.int k n=>some (.int k (bits .xor k (if k.signed then -1 else k.max) n))
 |.not,.bool b=>some (.bool (!b))
 |_,_=>none
def aI:List AV->List AV
 |[]=>[]
 |x::r=>x.cells++aI r
def jX (H:Heap) (k:Nat):AV->Option (List AV × Nat)
 |.dO=>some ([],0)
 |.list k' xs=>if k'=k then some (aI xs,xs.length) else none
 |.sl k' b off len=>match aO H b with
   |some cs=>if k'=k/\off+len*k<=cs.length then some ((cs.drop off).take (len*k),len) else none
   |none=>none
 |_=>none
def lenA:AV->Option Nat
 |.dO=>some 0
 |.list _ xs=>some xs.length
 |.sl _ _ _ len=>some len
 |_=>none
def zX (mx:Bool):AV->List AV->Option AV
 |x,[]=>some x
 |.int k a,.int _ b::r=>zX mx (.int k (if mx then (if b > a then b else a) else (if b<a then b else a))) r
 |_,_=>none
def uJ (mx:Bool):List AV->Option AV
 |.int k a::r=>zX mx (.int k a) r
 |_=>none
def rep (zs:List AV):Nat->List AV
 |0=>[]
 |n+1=>zs++rep zs n

def Ap (c:fe) (call:Nat->List AV->Heap->Option (AV × Heap)) (f:Nat) (args:List AV) (H:Heap):Option (AV × Heap × Fp):=
 match c.fn f with
 |none=>none
 |some (.K,_)=>match call f args H with
   |some (r,H')=>some (r,H',.wr 0 [])
   |none=>none
 |some (.T,_)=>match call f args H with
   |some (r,H')=>match GB H' XQ r with
     |some (r',bs)=>if H.length<=H'.length/\aa9 H.length bs=true/\Dz H.length (H'.take H.length)=true then some (r',H'.take H.length,.wr 0 []) else none
     |none=>none
   |none=>none
 |some (.P,_)=>if uG args then
   match call f args [] with
   |some (r,H')=>match GB H' XQ r with
     |some (r',_)=>some (r',H,.no)
     |none=>none
   |none=>none
   else match Gb (GB H XQ) args with
    |some (ud,bs)=>match call f ud [] with
      |some (r,H')=>match GB H' XQ r with
        |some (r',_)=>if r'.flat then some (r',H,.ra) else some (r',kill H bs,.wr 0 [])
        |none=>none
      |none=>none
    |none=>none

def gU (c:fe) (call:Nat->List AV->Heap->Option (AV × Heap)) (env:Env) (H:Heap):Kd->Option (AV × Heap × Fp)
 |.mv x=>some (ev c env x,H,.no)
 |.pick t a b=>match ev c env t with
   |.bool t=>some (if t then ev c env a else ev c env b,H,.no)
   |_=>none
 |.new zs=>some (.ptr H.length 0,H++[some zs],.wr H.length [])
 |.box x=>if bG (ev c env x).cells then some (.ptr H.length 0,H++[some (ev c env x).cells],.wr H.length []) else none
 |.build zs ps=>match qa c env zs ps with
   |some cs=>some (.agg cs,H,.no)
   |none=>none
 |.dK k n zs ps=>match qa c env (rep zs n) ps with
   |some cs=>if bG cs then some (.sl k H.length 0 n,H++[some cs],.wr H.length []) else none
   |none=>none
 |.ld ag x=>match ev c env x with
   |.dV cs=>match FN ag cs with
     |some v=>some (v,H,.no)
     |none=>none
   |.ptr b off=>match aO H b with
     |some cs=>match FN ag (cs.drop off) with
       |some v=>some (v,H,.rd b)
       |none=>none
     |none=>none
   |_=>none
 |.st k a v=>match ev c env a with
   |.ptr b off=>match aO H b with
     |some cs=>if (ev c env v).cells.length=k/\off+k<=cs.length/\bG (ev c env v).cells=true then
       some (.undef,H.set b (some (kg cs off (ev c env v).cells)),.wr H.length [b]) else none
     |none=>none
   |_=>none
 |.nK x=>match ev c env x with
   |.ptr b off=>some (.ptr b off,H,.no)
   |.dV cs=>some (.dV cs,H,.no)
   |.func (.func f) a b=>some (.func (.func f) a b,H,.no)
   |_=>none
 |.bin op x y=>match kr op (ev c env x) (ev c env y) with
   |some v=>some (v,H,.no)
   |none=>none
 |.eq ng t x y=>match eqA t (ev c env x) (ev c env y) with
   |some e=>some (.bool (if ng then !e else e),H,.no)
   |none=>none
 |.un op x=>match We op (ev c env x) with
   |some v=>some (v,H,.no)
   |none=>none
 |.HX k x=>match ev c env x with
   |.int _ n=>some (.int k (k.wrap n),H,.no)
   |_=>none
 |.VP fn a b=>some (.func fn (IW c env a) (IW c env b),H,.no)
 |.KR k zs l cp=>match ev c env l,ev c env cp with
   |.int _ l,.int _ cp=>if 0<=l/\l<=cp/\cp<=(jx:Int) then some (.sl k H.length 0 l.toNat,H++[some (rep zs l.toNat)],.wr H.length []) else none
   |_,_=>none
 |.D5 k x lo hi=>match lenA (ev c env x) with
   |some n=>match Ft c env n n hi with
     |some h=>match Ft c env 0 h lo with
       |some l=>match ev c env x with
         |.dO=>some (.dO,H,.no)
         |.list k' xs=>if k'=k then some (.list k ((xs.take h).drop l),H,.no) else none
         |.sl k' b off _=>if k'=k then some (.sl k b (off+l*k) (h-l),H,.no) else none
         |_=>none
       |none=>none
     |none=>none
   |none=>none
 |.fk off x=>match ev c env x with
   |.ptr b o=>some (.ptr b (o+off),H,.no)
   |.dV cs=>some (.dV (cs.drop off),H,.no)
   |_=>none
 |.Nd n x hi=>match Ft c env n n hi with
   |some m=>match ev c env x with
     |.dV cs=>if n<=cs.length/\m=n/\bG (cs.take n)=true then some (.list 1 (cs.take n),H,.no) else none
     |.ptr b off=>match aO H b with
       |some cs=>if off+n<=cs.length then some (.sl 1 b off m,H,.rd b) else none
       |none=>none
     |_=>none
   |none=>none
 |.fld off ag x=>match ev c env x with
   |.agg cs=>match FN ag (cs.drop off) with
     |some v=>some (v,H,.no)
     |none=>none
   |_=>none
 |.fm k x i=>match ev c env x with
   |.list k' xs=>match idx (ev c env i) xs.length with
     |some j=>if k'=k then match xs[j]? with
       |some v=>some (.dV v.cells,H,.no)
       |none=>none
       else none
     |none=>none
   |.sl k' b off len=>match idx (ev c env i) len with
     |some j=>if k'=k then some (.ptr b (off+j*k),H,.no) else none
     |none=>none
   |_=>none
 |.Ig n k x i=>match idx (ev c env i) n with
   |some j=>match ev c env x with
     |.ptr b off=>some (.ptr b (off+j*k),H,.no)
     |.dV cs=>some (.dV (cs.drop (j*k)),H,.no)
     |_=>none
   |none=>none
 |.ix n k ag x i=>match idx (ev c env i) n with
   |some j=>match ev c env x with
     |.agg cs=>match FN ag (cs.drop (j*k)) with
       |some v=>some (v,H,.no)
       |none=>none
     |_=>none
   |none=>none
 |.ixs tab i=>match idx (ev c env i) tab.length with
   |some j=>match tab[j]? with
     |some v=>some (.int .u8 v,H,.no)
     |none=>none
   |none=>none
 |.Vv k zs x=>match ev c env x with
   |.dO=>some (.undef,H,.wr H.length [])
   |.list _ []=>some (.undef,H,.wr H.length [])
   |.sl k' b off len=>if len=0 then some (.undef,H,.wr H.length []) else match aO H b with
     |some cs=>if k'=k/\off+len*k<=cs.length then some (.undef,H.set b (some (kg cs off (rep zs len))),.wr H.length [b]) else none
     |none=>none
   |_=>none
 |.ext i x=>match ev c env x with
   |.dJ vs=>match vs[i]? with
     |some v=>some (v,H,.no)
     |none=>none
   |_=>none
 |.call f args=>Ap c call f (IW c env args) H
 |.jM x args=>match ev c env x with
   |.func (.func f) a b=>Ap c call f (a++IW c env args++b) H
   |_=>none
 |.len x=>match lenA (ev c env x) with
   |some n=>some (.int .i64 n,H,.no)
   |none=>none
 |.app k x y=>match jX H k (ev c env y) with
   |some (news,m)=>match ev c env x with
     |.dO=>if m=0 then some (.dO,H,.wr H.length []) else if m<=jx/\bG news=true then some (.sl k H.length 0 m,H++[some news],.wr H.length []) else none
     |.sl k' b 0 n=>match aO H b with
       |some cs=>if k'=k/\n*k<=cs.length/\n+m<=jx/\bG news=true then some (.sl k H.length 0 (n+m),H.set b none++[some (cs.take (n*k)++news)],.wr H.length [b]) else none
       |none=>none
     |_=>none
   |none=>none
 |.min xs=>match uJ false (IW c env xs) with
   |some v=>some (v,H,.no)
   |none=>none
 |.max xs=>match uJ true (IW c env xs) with
   |some v=>some (v,H,.no)
   |none=>none
 |.copy k x y=>match jX H k (ev c env y) with
   |some (news,m)=>match ev c env x with
     |.dO=>some (.int .i64 0,H,.wr H.length [])
     |.sl k' b off n=>match aO H b with
       |some cs=>if k'=k/\off+n*k<=cs.length/\bG news=true then some (.int .i64 (min m n:Nat),H.set b (some (kg cs off (news.take (min m n*k)))),.wr H.length [b]) else none
       |none=>none
     |_=>none
   |none=>none
 |.bad=>none

def resA (H:Heap) (env:Env):Rv->Option AV
 |.t i=>some (get env i)
 |.c i ag=>match get env i with
   |.ptr b off=>match aO H b with
     |some cs=>FN ag (cs.drop off)
     |none=>none
   |.dV cs=>FN ag cs
   |_=>none
def SP (H:Heap) (env:Env):List Rv->Option (List AV)
 |[]=>some []
 |r::rs=>match resA H env r,SP H env rs with
   |some v,some vs=>some (v::vs)
   |_,_=>none
def pF:List AV->AV
 |[x]=>x
 |vs=>.dJ vs

end Go.Am

/- How abstract values stand for values of the model in a world. -/
namespace Go.Am

abbrev dQ:=List (Option (Nat × Nat))
def bQ (φ:dQ) (g:Nat):Prop:=∃b sz:Nat,φ[b]?=some (some (g,sz))
def Rd (X:Nat->Prop) (φ:dQ) (w:World) (a:Addr) (u:Value):Prop:=¬X a.block/\¬ bQ φ a.block/\w.cell? a=some u

inductive cB (R:Addr->Value->Prop):dQ->AV->Value->Prop
 |any (φ:dQ) (v:Value):cB R φ .any v
 |undef (φ:dQ):cB R φ .undef (.tuple #[])
 |gq (φ:dQ):cB R φ .gq (.pointer none)
 |gz (φ:dQ):cB R φ .gz .nilFunc
 |dO (φ:dQ):cB R φ .dO (.slice none 0 0)
 |int (φ:dQ) (k:IntKind) (n:Int):cB R φ (.int k n) (.int k n)
 |bool (φ:dQ) (b:Bool):cB R φ (.bool b) (.bool b)
 |str (φ:dQ) (s:ByteArray):cB R φ (.str s) (.string s)
 |agg (φ:dQ) (cs:List AV) (vs:Array Value) (hl:cs.length=vs.size) (h:∀(i:Nat) (c:AV) (v:Value),cs[i]?=some c->vs[i]?=some v->cB R φ c v):cB R φ (.agg cs) (.agg vs)
 |dJ (φ:dQ) (cs:List AV) (vs:Array Value) (hl:cs.length=vs.size) (h:∀(i:Nat) (c:AV) (v:Value),cs[i]?=some c->vs[i]?=some v->cB R φ c v):cB R φ (.dJ cs) (.tuple vs)
 |func (φ:dQ) (f:Fn) (as:List AV) (va:Array Value) (bs:List AV) (vb:Array Value) (HN:as.length=va.size) (HM:bs.length=vb.size)
   (ha:∀(i:Nat) (c:AV) (v:Value),as[i]?=some c->va[i]?=some v->cB R φ c v) (hb:∀(i:Nat) (c:AV) (v:Value),bs[i]?=some c->vb[i]?=some v->cB R φ c v):cB R φ (.func f as bs) (.func f va vb)
 |oa (φ:dQ) (k:Nat) (xs:List AV) (a:Addr) (n cap:Nat) (u:Nat->Nat->Value) (hn:n=xs.length) (je:n<=cap) (hk:∀x∈xs,x.cells.length=k)
   (hu:∀(i j:Nat) (x c:AV),xs[i]?=some x->x.cells[j]?=some c->R (a.add (i*k+j)) (u i j))
   (h:∀(i j:Nat) (x c:AV),xs[i]?=some x->x.cells[j]?=some c->cB R [] c (u i j)):cB R φ (.list k xs) (.slice (some a) n cap)
 |kJ (φ:dQ) (k:Nat):cB R φ (.list k []) (.slice none 0 0)
 |dV (φ:dQ) (cs:List AV) (a:Addr) (u:Nat->Value) (hu:∀(j:Nat) (c:AV),cs[j]?=some c->R (a.add j) (u j))
   (h:∀(j:Nat) (c:AV),cs[j]?=some c->cB R [] c (u j)):cB R φ (.dV cs) (.pointer (some a))
 |ptr (φ:dQ) (b off:Nat) (a:Addr) (hb:b<φ.length) (h:∀g sz:Nat,φ[b]?=some (some (g,sz))->a=⟨g,off,none⟩):cB R φ (.ptr b off) (.pointer (some a))
 |sl (φ:dQ) (k b off len:Nat) (a:Addr) (cap:Nat) (hb:b<φ.length) (hc:len<=cap)
   (h:∀g sz:Nat,φ[b]?=some (some (g,sz))->(0<cap->a=⟨g,off,none⟩)/\off+cap*k<=sz):cB R φ (.sl k b off len) (.slice (some a) len cap)

theorem bu {α:Type} {l:List α} {i:Nat} (h:i<l.length):∃x,l[i]?=some x:=⟨l[i],List.getElem?_eq_getElem h⟩
theorem dc {α:Type} {l:Array α} {i:Nat} (h:i<l.size):∃x,l[i]?=some x:=⟨l[i],Nj h⟩
theorem aC {α:Type} {l:List α} {i:Nat} {x:α} (h:l[i]?=some x):i<l.length:=(List.getElem?_eq_some_iff.1 h).1
theorem mU {α:Type} {l:Array α} {i:Nat} {x:α} (h:l[i]?=some x):i<l.size:=(dS.1 h).1

structure AB (φ φ':dQ):Prop where
 len:φ.length<=φ'.length
 OJ:∀(b:Nat) (p:Nat × Nat),b<φ.length->φ'[b]?=some (some p)->φ[b]?=some (some p)
theorem AB.refl (φ:dQ):AB φ φ:=⟨aY _,fun _ _ _ h=>h⟩
theorem AB.trans {a b c:dQ} (h:AB a b) (k:AB b c):AB a c:=
 ⟨Mu h.len k.len,fun i p hi hp=>h.OJ i p hi (k.OJ i p (ff hi h.len) hp)⟩

theorem cB.mono {R R':Addr->Value->Prop} (hR:∀a u,R a u->R' a u) {φ:dQ} {x:AV} {v:Value} (h:cB R φ x v):∀{φ':dQ},AB φ φ'->cB R' φ' x v:=by
 induction h with
 |any=>intro φ' _; exact .any _ _
 |undef=>intro φ' _; exact .undef _
 |gq=>intro φ' _; exact .gq _
 |gz=>intro φ' _; exact .gz _
 |dO=>intro φ' _; exact .dO _
 |int=>intro φ' _; exact .int _ _ _
 |bool=>intro φ' _; exact .bool _ _
 |str=>intro φ' _; exact .str _ _
 |agg φ cs vs hl h ih=>intro φ' hp; exact .agg _ _ _ hl fun i c v h1 h2=>ih i c v h1 h2 hp
 |dJ φ cs vs hl h ih=>intro φ' hp; exact .dJ _ _ _ hl fun i c v h1 h2=>ih i c v h1 h2 hp
 |func φ f as va bs vb HN HM ha hb iha ihb=>intro φ' hp; exact .func _ _ _ _ _ _ HN HM (fun i c v h1 h2=>iha i c v h1 h2 hp) (fun i c v h1 h2=>ihb i c v h1 h2 hp)
 |oa φ k xs a n cap u hn je hk hu h ih=>intro φ' _; exact .oa _ _ _ _ _ _ u hn je hk (fun i j x c h1 h2=>hR _ _ (hu i j x c h1 h2)) (fun i j x c h1 h2=>ih i j x c h1 h2 (.refl _))
 |kJ=>intro φ' _; exact .kJ _ _
 |dV φ cs a u hu h ih=>intro φ' _; exact .dV _ _ _ u (fun j c h1=>hR _ _ (hu j c h1)) (fun j c h1=>ih j c h1 (.refl _))
 |ptr φ b off a hb h=>intro φ' hp; exact .ptr _ _ _ _ (ff hb hp.len) fun g sz hg=>h g sz (hp.OJ _ _ hb hg)
 |sl φ k b off len a cap hb hc h=>intro φ' hp; exact .sl _ _ _ _ _ _ _ (ff hb hp.len) hc fun g sz hg=>h g sz (hp.OJ _ _ hb hg)

theorem s6 {cs:List AV} (h:uG cs=true):∀(i:Nat) (c:AV),cs[i]?=some c->c.plain=true:=by
 induction cs with
 |nil=>intro i c hc; simp at hc
 |cons x r ih=>
   simp only[uG,ae] at h;intro i c hc;cases i with
   |zero=>simp at hc; subst hc; exact h.1
   |succ i=>simp at hc; exact ih h.2 i c hc
theorem Bf {cs:List AV} (h:LG cs=true):∀(i:Nat) (c:AV),cs[i]?=some c->c.flat=true:=by
 induction cs with
 |nil=>intro i c hc; simp at hc
 |cons x r ih=>
   simp only[LG,ae] at h;intro i c hc;cases i with
   |zero=>simp at hc; subst hc; exact h.1
   |succ i=>simp at hc; exact ih h.2 i c hc
theorem pJ {n:Nat} {cs:List AV} (h:rR n cs=true):∀(i:Nat) (c:AV),cs[i]?=some c->c.zd n=true:=by
 induction cs with
 |nil=>intro i c hc; simp at hc
 |cons x r ih=>
   simp only[rR,ae] at h;intro i c hc;cases i with
   |zero=>simp at hc; subst hc; exact h.1
   |succ i=>simp at hc; exact ih h.2 i c hc
theorem Ay {cs:List AV} (h:bG cs=true):∀(i:Nat) (c:AV),cs[i]?=some c->c.leaf=true:=by
 induction cs with
 |nil=>intro i c hc; simp at hc
 |cons x r ih=>
   simp only[bG,ae] at h;intro i c hc;cases i with
   |zero=>simp at hc; subst hc; exact h.1
   |succ i=>simp at hc; exact ih h.2 i c hc

theorem cB.dY {R:Addr->Value->Prop} {φ:dQ} {x:AV} {v:Value} (h:cB R φ x v):x.plain=true->∀ψ,cB R ψ x v:=by
 induction h with
 |any=>intro _ ψ; exact .any _ _
 |undef=>intro _ ψ; exact .undef _
 |gq=>intro _ ψ; exact .gq _
 |gz=>intro _ ψ; exact .gz _
 |dO=>intro _ ψ; exact .dO _
 |int=>intro _ ψ; exact .int _ _ _
 |bool=>intro _ ψ; exact .bool _ _
 |str=>intro _ ψ; exact .str _ _
 |agg φ cs vs hl h ih=>intro hp ψ; simp only[AV.plain] at hp; exact .agg _ _ _ hl fun i c v h1 h2=>ih i c v h1 h2 (s6 hp i c h1) ψ
 |dJ φ cs vs hl h ih=>intro hp ψ; simp only[AV.plain] at hp; exact .dJ _ _ _ hl fun i c v h1 h2=>ih i c v h1 h2 (s6 hp i c h1) ψ
 |func φ f as va bs vb HN HM ha hb iha ihb=>
   intro hp ψ;simp only[AV.plain,ae] at hp;exact .func _ _ _ _ _ _ HN HM (fun i c v h1 h2=>iha i c v h1 h2 (s6 hp.1 i c h1) ψ) (fun i c v h1 h2=>ihb i c v h1 h2 (s6 hp.2 i c h1) ψ)
 |oa φ k xs a n cap u hn je hk hu h ih=>intro _ ψ; exact .oa _ _ _ _ _ _ u hn je hk hu h
 |kJ=>intro _ ψ; exact .kJ _ _
 |dV φ cs a u hu h ih=>intro _ ψ; exact .dV _ _ _ u hu h
 |ptr=>intro hp; simp[AV.plain] at hp
 |sl=>intro hp; simp[AV.plain] at hp
theorem cB.of_flat {R:Addr->Value->Prop} {φ:dQ} {x:AV} {v:Value} (h:cB R φ x v):x.flat=true->∀(R':Addr->Value->Prop) ψ,cB R' ψ x v:=by
 induction h with
 |any=>intro _ _ ψ; exact .any _ _
 |undef=>intro _ _ ψ; exact .undef _
 |gq=>intro _ _ ψ; exact .gq _
 |gz=>intro _ _ ψ; exact .gz _
 |dO=>intro _ _ ψ; exact .dO _
 |int=>intro _ _ ψ; exact .int _ _ _
 |bool=>intro _ _ ψ; exact .bool _ _
 |str=>intro _ _ ψ; exact .str _ _
 |agg φ cs vs hl h ih=>intro hp R' ψ; simp only[AV.flat] at hp; exact .agg _ _ _ hl fun i c v h1 h2=>ih i c v h1 h2 (Bf hp i c h1) R' ψ
 |dJ φ cs vs hl h ih=>intro hp R' ψ; simp only[AV.flat] at hp; exact .dJ _ _ _ hl fun i c v h1 h2=>ih i c v h1 h2 (Bf hp i c h1) R' ψ
 |func φ f as va bs vb HN HM ha hb iha ihb=>
   intro hp R' ψ;simp only[AV.flat,ae] at hp;exact .func _ _ _ _ _ _ HN HM (fun i c v h1 h2=>iha i c v h1 h2 (Bf hp.1 i c h1) R' ψ) (fun i c v h1 h2=>ihb i c v h1 h2 (Bf hp.2 i c h1) R' ψ)
 |oa=>intro hp; simp[AV.flat] at hp
 |kJ=>intro hp; simp[AV.flat] at hp
 |dV=>intro hp; simp[AV.flat] at hp
 |ptr=>intro hp; simp[AV.flat] at hp
 |sl=>intro hp; simp[AV.flat] at hp
theorem cB.take {R:Addr->Value->Prop} {φ:dQ} {x:AV} {v:Value} {n:Nat} (h:cB R φ x v):x.zd n=true->cB R (φ.take n) x v:=by
 induction h with
 |any=>intro _; exact .any _ _
 |undef=>intro _; exact .undef _
 |gq=>intro _; exact .gq _
 |gz=>intro _; exact .gz _
 |dO=>intro _; exact .dO _
 |int=>intro _; exact .int _ _ _
 |bool=>intro _; exact .bool _ _
 |str=>intro _; exact .str _ _
 |agg φ cs vs hl h ih=>intro hp; simp only[AV.zd] at hp; exact .agg _ _ _ hl fun i c v h1 h2=>ih i c v h1 h2 (pJ hp i c h1)
 |dJ φ cs vs hl h ih=>intro hp; simp only[AV.zd] at hp; exact .dJ _ _ _ hl fun i c v h1 h2=>ih i c v h1 h2 (pJ hp i c h1)
 |func φ f as va bs vb HN HM ha hb iha ihb=>
   intro hp;simp only[AV.zd,ae] at hp;exact .func _ _ _ _ _ _ HN HM (fun i c v h1 h2=>iha i c v h1 h2 (pJ hp.1 i c h1)) (fun i c v h1 h2=>ihb i c v h1 h2 (pJ hp.2 i c h1))
 |oa φ k xs a n cap u hn je hk hu h ih=>intro _; exact .oa _ _ _ _ _ _ u hn je hk hu h
 |kJ=>intro _; exact .kJ _ _
 |dV φ cs a u hu h ih=>intro _; exact .dV _ _ _ u hu h
 |ptr φ b off a hb h=>
   intro hp;have Pb:b<n:=by simpa[AV.zd] using hp
   refine .ptr _ _ _ _ (by rw[bF]; omega) fun g sz hg=>h g sz ?_;rw[bm Pb] at hg;exact hg
 |sl φ k b off len a cap hb hc h=>
   intro hp;have Pb:b<n:=by simpa[AV.zd] using hp
   refine .sl _ _ _ _ _ _ _ (by rw[bF]; omega) hc fun g sz hg=>h g sz ?_;rw[bm Pb] at hg;exact hg
theorem cB.w7 {R:Addr->Value->Prop} {φ:dQ} {x:AV} {v:Value} (h:cB R φ x v) (hl:x.leaf=true):v.oneCell'=true:=by
 cases h<;>first|rfl|simp[AV.leaf] at hl

theorem cB.cells {R:Addr->Value->Prop} {φ:dQ} {x:AV} {v:Value} (h:cB R φ x v) (hs:bG x.cells=true) :
  x.cells.length=v.cells.size/\∀ (i:Nat) (c:AV),x.cells[i]?=some c->∃u,v.cells[i]?=some u/\cB R φ c u/\u.oneCell'=true:=by
 have one:∀{x:AV} {v:Value},x.cells=[x]->v.cells=#[v]->cB R φ x v->bG x.cells=true ->
   x.cells.length=v.cells.size/\∀ (i:Nat) (c:AV),x.cells[i]?=some c->∃u,v.cells[i]?=some u/\cB R φ c u/\u.oneCell'=true:=by
  intro x v hx hv h hs;rw[hx,hv];refine⟨rfl,fun i c hc=>?_⟩;cases i with
  |zero=>
    simp at hc; subst hc;refine⟨v,by simp,h,h.w7 ?_⟩;rw[hx] at hs; simpa[bG] using hs
  |succ i=>simp at hc
 cases h with
 |any=>simp[AV.cells,bG,AV.leaf] at hs
 |agg φ cs vs hl h=>
   refine⟨hl,fun i c hc=>?_⟩;have hi:i<vs.size:=hl▸aC hc;obtain⟨u,hu⟩:=dc hi;exact⟨u,hu,h i c u hc hu,(h i c u hc hu).w7 (Ay hs i c hc)⟩
 |_=>exact one rfl rfl (by first|exact .undef _|exact .gq _|exact .gz _|exact .dO _|exact .int _ _ _|exact .bool _ _|exact .str _ _|exact .kJ _ _|(constructor<;>assumption)) hs

structure cK (X:Nat->Prop) (φ:dQ) (w:World) (H:Heap):Prop where
 len:φ.length=H.length
 FC:∀g,X g->g<w.heap.size
 live:∀(b:Nat) (cs:List AV),H[b]?=some (some cs)->∃(g sz:Nat) (arr:Array Value) (e:TypeId),φ[b]?=some (some (g,sz))/\w.heap[g]?=some (.cells arr e (0,0))/\arr.size=sz/\cs.length<=sz/\¬ X g /\
  ∀ (i:Nat) (c:AV),cs[i]?=some c->∃u,arr[i]?=some u/\cB (Rd X φ w) φ c u
 dead:∀b:Nat,H[b]?=some none->φ[b]?=some none
 inj:∀b b' g sz nF:Nat,φ[b]?=some (some (g,sz))->φ[b']?=some (some (g,nF))->b=b'

structure fU (φ:dQ) (w:World) (φ':dQ) (w':World):Prop where
 os:w'.os=w.os
 tape:w'.tape=w.tape
 output:w'.output=w.output
 drawn:w.drawn<=w'.drawn
 size:w.heap.size<=w'.heap.size
 keep:∀g,g<w.heap.size->¬bQ φ g->w'.heap[g]?=w.heap[g]?/\¬ bQ φ' g
 ZA:AB φ φ'
theorem fU.refl (φ:dQ) (w:World):fU φ w φ w:=⟨rfl,rfl,rfl,aY _,aY _,fun _ _ h=>⟨rfl,h⟩,.refl _⟩
theorem fU.trans {φ φ' ql:dQ} {w w' w'':World} (h:fU φ w φ' w') (k:fU φ' w' ql w''):fU φ w ql w'':=
 ⟨k.os.trans h.os,k.tape.trans h.tape,k.output.trans h.output,Mu h.drawn k.drawn,Mu h.size k.size,
  fun g hg ho=>⟨(k.keep g (ff hg h.size) (h.keep g hg ho).2).1.trans (h.keep g hg ho).1,(k.keep g (ff hg h.size) (h.keep g hg ho).2).2⟩,h.ZA.trans k.ZA⟩
theorem fU.rd {X:Nat->Prop} {φ φ':dQ} {w w':World} (h:fU φ w φ' w'):∀a u,Rd X φ w a u->Rd X φ' w' a u:=by
 intro a u ⟨h1,h2,h3⟩;have bD:=World.block_lt_of_cell? w a h3;exact⟨h1,(h.keep _ bD h2).2,(World.cell?_of_block (h.keep _ bD h2).1).trans h3⟩
theorem fU.rep {X:Nat->Prop} {φ φ':dQ} {w w':World} (h:fU φ w φ' w') {x:AV} {v:Value} (r:cB (Rd X φ w) φ x v):cB (Rd X φ' w') φ' x v:=r.mono h.rd h.ZA
theorem fU.drew (φ:dQ) (w:World):fU φ w φ w.drew:=⟨rfl,rfl,rfl,Nat.le_succ _,aY _,fun _ _ h=>⟨rfl,h⟩,.refl _⟩

def qf (X:Nat->Prop) (φ:dQ) (w:World) (env:Env) (tmps:Array Value):Prop:=∀i,cB (Rd X φ w) φ (get env i) (tmps.getD i undef)
theorem bM (env:Env) (d:Nat) (v:AV) (i:Nat):get (put env d v) i=if i=d then v else get env i:=by
 induction env with
 |nil=>by_cases h:i=d<;>simp[put,get,h]
 |cons p r ih=>
   obtain⟨j,u⟩:=p;unfold put;split
   ·by_cases h:i=d<;>simp[get,h]
   ·split
    ·rename_i h1 h2;subst h2;by_cases h:i=d<;>simp[get,h]
    ·rename_i h1 h2;simp only[get,ih];by_cases h:i=j
     ·subst h; simp[Ne.symm h2]
     ·simp[h]
theorem qf.put {X:Nat->Prop} {φ:dQ} {w:World} {env:Env} {tmps:Array Value} (h:qf X φ w env tmps) {d:Nat} (hd:d<tmps.size) {x:AV} {v:Value} (r:cB (Rd X φ w) φ x v) :
  qf X φ w (put env d x) (tmps.setIfInBounds d v):=by
 intro i;rw[bM];by_cases hi:i=d
 ·subst hi;simp[hd,r]
 ·have:=h i;simpa[hi,Array.getElem?_setIfInBounds_ne (Ne.symm hi)] using this
theorem qf.m6 {X:Nat->Prop} {φ φ':dQ} {w w':World} {env:Env} {tmps:Array Value} (h:qf X φ w env tmps) (k:fU φ w φ' w'):qf X φ' w' env tmps:=fun i=>k.rep (h i)

theorem Addr.add_add (a:Addr) (n m:Nat):(a.add n).add m=a.add (n+m):=by
 unfold Addr.add;by_cases hn:n=0
 ·subst hn; simp
 ·by_cases hm:m=0
  ·subst hm; simp[hn]
  ·simp[hn,hm,Nat.add_assoc]
theorem Addr.jP (g o n:Nat):Addr.add ⟨g,o,none⟩ n=⟨g,o+n,none⟩:=Addr.add_lit g o n
end Go.Am

/- The heap relation under the steps of the machine; freezing. -/
namespace Go.Am

theorem vZ {H:Heap} {b:Nat} {cs:List AV} (h:aO H b=some cs):H[b]?=some (some cs):=by
 unfold aO at h;split at h
 ·rename_i h'; rw[h']; simpa using h
 ·cases h
theorem cK.at {X:Nat->Prop} {φ:dQ} {w:World} {H:Heap} (h:cK X φ w H) {b:Nat} {cs:List AV} (hb:aO H b=some cs) :
  ∃ (g sz:Nat) (arr:Array Value) (e:TypeId),φ[b]?=some (some (g,sz))/\w.heap[g]?=some (.cells arr e (0,0))/\arr.size=sz/\cs.length<=sz/\¬ X g /\
   ∀ (i:Nat) (c:AV),cs[i]?=some c->∃u,arr[i]?=some u/\cB (Rd X φ w) φ c u:=h.live b cs (vZ hb)

theorem bQ.nil (g:Nat):¬bQ [] g:=fun⟨b,sz,h⟩=>by simp at h
theorem rV {φ:dQ} {p:Nat × Nat} {g:Nat} (h:bQ (φ++[some p]) g):bQ φ g\/g=p.1:=by
 obtain⟨b,sz,hb⟩:=h;by_cases bD:b<φ.length
 ·rw[aB bD] at hb;exact .inl ⟨b,sz,hb⟩
 ·rw[aR (by omega)] at hb
  have h0:b-φ.length=0:=by
   have:=aC hb;simp at this; omega
  rw[h0] at hb;simp at hb;right; rw[hb]
theorem vF {φ:dQ} {b g:Nat} (h:bQ (φ.set b none) g):bQ φ g:=by
 obtain⟨c,sz,hc⟩:=h;refine⟨c,sz,?_⟩;rw[bg] at hc;split at hc
 ·split at hc<;>simp at hc
 ·exact hc

theorem fU.of_same {φ:dQ} {w w':World} {ψ:dQ} (h:fU [] w ψ w'):fU φ w φ w':=
 ⟨h.os,h.tape,h.output,h.drawn,h.size,fun g hg ho=>⟨(h.keep g hg (bQ.nil g)).1,ho⟩,.refl _⟩
theorem cK.of_same {X:Nat->Prop} {φ:dQ} {w w':World} {H:Heap} {ψ:dQ} (h:cK X φ w H) (a:fU [] w ψ w'):cK X φ w' H:=by
 have k:fU φ w φ w':=fU.of_same a;refine⟨h.len,fun g hg=>ff (h.FC g hg) a.size,fun b cs hb=>?_,h.dead,h.inj⟩;obtain⟨g,sz,arr,e,h1,h2,h3,h4,h5,h6⟩:=h.live b cs hb;refine⟨g,sz,arr,e,h1,?_,h3,h4,h5,fun i c hc=>?_⟩
 ·rw[(a.keep g (dS.1 h2).1 (bQ.nil g)).1]; exact h2
 ·obtain⟨u,hu,r⟩:=h6 i c hc;exact⟨u,hu,k.rep r⟩

theorem cK.alloc {X:Nat->Prop} {φ:dQ} {w w':World} {H:Heap} (h:cK X φ w H) {arr:Array Value} {e:TypeId} (hw:w'.heap=w.heap.push (.cells arr e (0,0)))
  (ho:w'.os=w.os) (ht:w'.tape=w.tape) (hp:w'.output=w.output) {cs:List AV} (hl:cs.length<=arr.size)
  (hc:∀(i:Nat) (c:AV),cs[i]?=some c->∃u,arr[i]?=some u/\cB (Rd X φ w) φ c u) (hd:w.drawn<=w'.drawn) :
  cK X (φ++[some (w.heap.size,arr.size)]) w' (H++[some cs])/\fU φ w (φ++[some (w.heap.size,arr.size)]) w':=by
 have own:∀g,bQ φ g->g<w.heap.size:=by
  intro g ⟨b,sz,hb⟩;have bD:b<H.length:=h.len▸aC hb;obtain⟨x,hx⟩:=bu bD;cases x with
  |none=>rw[h.dead b hx] at hb; simp at hb
  |some cs=>
    obtain⟨g',nF,arr,e,h1,h2,_⟩:=h.live b cs hx;rw[h1] at hb;simp at hb;rw[<-hb.1];exact (dS.1 h2).1
 have a:fU φ w (φ++[some (w.heap.size,arr.size)]) w':=by
  refine⟨ho,ht,hp,hd,by rw[hw]; simp,fun g hg hn=>⟨?_,?_⟩,⟨by simp,fun b p hb hp=>?_⟩⟩
  ·rw[hw,XZ,if_neg (by omega)]
  ·intro ho;rcases rV ho with h1|h1
   ·exact hn h1
   ·simp at h1; omega
  ·rwa [aB hb] at hp
 refine⟨⟨by simp[h.len],fun g hg=>?_,fun b ds hb=>?_,fun b hb=>?_,fun b b' g sz nF h1 h2=>?_⟩,a⟩
 ·rw[hw]; have:=h.FC g hg; simp; omega
 ·by_cases bD:b<H.length
  ·rw[aB bD] at hb;obtain⟨g,sz,ar,e',h1,h2,h3,h4,h5,h6⟩:=h.live b ds hb;refine⟨g,sz,ar,e',by rw[aB (by rw[h.len]; exact bD)]; exact h1,?_,h3,h4,h5,fun i c hc=>?_⟩
   ·rw[hw,XZ,if_neg (by have:=(dS.1 h2).1; omega)]; exact h2
   ·obtain⟨u,hu,r⟩:=h6 i c hc;exact⟨u,hu,a.rep r⟩
  ·have iK:=aC hb;simp at iK;have DB:b=H.length:=by omega
   subst DB;simp at hb;subst hb;refine⟨w.heap.size,arr.size,arr,e,by rw[<-h.len]; simp,by rw[hw]; simp,rfl,hl,fun hx=>by have:=h.FC _ hx; omega,fun i c hi=>?_⟩;obtain⟨u,hu,r⟩:=hc i c hi;exact⟨u,hu,a.rep r⟩
 ·by_cases bD:b<H.length
  ·rw[aB bD] at hb;rw[aB (by rw[h.len]; exact bD)];exact h.dead b hb
  ·have iK:=aC hb;simp at iK;have DB:b=H.length:=by omega
   subst DB;simp at hb
 ·have new:∀(b g sz:Nat),(φ++[some (w.heap.size,arr.size)])[b]?=some (some (g,sz))->(b<φ.length/\φ[b]?=some (some (g,sz))/\g<w.heap.size)\/(b=φ.length/\g=w.heap.size):=by
   intro b g sz hb;by_cases bD:b<φ.length
   ·rw[aB bD] at hb;exact .inl ⟨bD,hb,own g ⟨b,sz,hb⟩⟩
   ·have iK:=aC hb;simp at iK;have DB:b=φ.length:=by omega
    subst DB;simp at hb;exact .inr ⟨rfl,hb.1.symm⟩
  rcases new b g sz h1 with⟨l1,e1,g1⟩|⟨l1,g1⟩<;>rcases new b' g nF h2 with⟨l2,e2,g2⟩|⟨l2,g2⟩
  ·exact h.inj b b' g sz nF e1 e2
  ·omega
  ·omega
  ·omega

theorem cK.store {X:Nat->Prop} {φ:dQ} {w w':World} {H:Heap} (h:cK X φ w H) {b g sz:Nat} {arr arr':Array Value} {e:TypeId} {cs':List AV}
  (kV:φ[b]?=some (some (g,sz))) (hg:w.heap[g]?=some (.cells arr e (0,0))) (qj:arr.size=sz) (hs:arr'.size=arr.size) (hw:w'=w.setRow g arr') (hX:¬X g)
  (hl:cs'.length<=arr'.size) (hc:∀(i:Nat) (c:AV),cs'[i]?=some c->∃u,arr'[i]?=some u/\cB (Rd X φ w) φ c u) :
  cK X φ w' (H.set b (some cs'))/\fU φ w φ w':=by
 subst hw;have a:fU φ w φ (w.setRow g arr'):=⟨rfl,rfl,rfl,aY _,by simp,fun k _ ho=>⟨setRow_other w g k _ (fun e=>ho ⟨b,sz,e▸kV⟩),ho⟩,.refl _⟩;refine⟨⟨by simp[h.len],fun k hk=>by simpa using h.FC k hk,fun c ds hb=>?_,fun c hb=>?_,h.inj⟩,a⟩
 ·rw[bg] at hb;split at hb
  ·rename_i Mr;subst Mr;split at hb
   ·simp at hb;subst hb;refine⟨g,sz,arr',e,kV,setRow_heap w g arr arr' e _ hg,by omega,by omega,hX,fun i c hi=>?_⟩;obtain⟨u,hu,r⟩:=hc i c hi;exact⟨u,hu,a.rep r⟩
   ·simp at hb
  ·rename_i Mr;obtain⟨g',nF,ar,e',h1,h2,h3,h4,h5,h6⟩:=h.live c ds hb;refine⟨g',nF,ar,e',h1,?_,h3,h4,h5,fun i c hi=>?_⟩
   ·rw[setRow_other w g g' _ (fun eq=>Mr (h.inj b c g sz nF kV (eq▸h1)))]; exact h2
   ·obtain⟨u,hu,r⟩:=h6 i c hi;exact⟨u,hu,a.rep r⟩
 ·rw[bg] at hb;split at hb
  ·split at hb<;>simp at hb
  ·exact h.dead c hb

theorem cK.UB {X:Nat->Prop} {φ:dQ} {w:World} {H:Heap} (h:cK X φ w H) (b:Nat):cK X (φ.set b none) w (H.set b none)/\fU φ w (φ.set b none) w:=by
 have a:fU φ w (φ.set b none) w:=by
  refine⟨rfl,rfl,rfl,aY _,aY _,fun g _ ho=>⟨rfl,fun hx=>ho (vF hx)⟩,⟨by simp,fun c p hc hp=>?_⟩⟩;rw[bg] at hp;split at hp
  ·split at hp<;>simp at hp
  ·exact hp
 refine⟨⟨by simp[h.len],h.FC,fun c ds hb=>?_,fun c hb=>?_,fun c c' g sz nF h1 h2=>?_⟩,a⟩
 ·rw[bg] at hb;split at hb
  ·split at hb<;>simp at hb
  ·rename_i Mr;obtain⟨g',nF,ar,e',h1,h2,h3,h4,h5,h6⟩:=h.live c ds hb;refine⟨g',nF,ar,e',?_,h2,h3,h4,h5,fun i c hi=>?_⟩
   ·rw[bg,if_neg Mr]; exact h1
   ·obtain⟨u,hu,r⟩:=h6 i c hi;exact⟨u,hu,a.rep r⟩
 ·rw[bg] at hb ⊢;split at hb
  ·rename_i Mr;rw[if_pos Mr];split at hb
   ·rename_i bD;rw[if_pos (by rw[h.len]; exact bD)]
   ·simp at hb
  ·rename_i Mr;rw[if_neg Mr];exact h.dead c hb
 ·have un:∀(c g sz:Nat),(φ.set b none)[c]?=some (some (g,sz))->φ[c]?=some (some (g,sz)):=by
   intro c g sz hc;rw[bg] at hc;split at hc
   ·split at hc<;>simp at hc
   ·exact hc
  exact h.inj c c' g sz nF (un c g sz h1) (un c' g nF h2)
def UA:dQ->List Nat->dQ
 |φ,[]=>φ
 |φ,b::r=>UA (φ.set b none) r
theorem cK.kill {X:Nat->Prop} {w:World}:∀(bs:List Nat) {φ:dQ} {H:Heap},cK X φ w H->cK X (UA φ bs) w (kill H bs)/\fU φ w (UA φ bs) w
 |[],φ,H,h=>⟨h,.refl _ _⟩
 |b::r,φ,H,h=>by
   obtain⟨h1,a1⟩:=h.UB b;obtain⟨h2,a2⟩:=cK.kill r h1;exact⟨h2,a1.trans a2⟩
theorem O4:∀(bs:List Nat) (φ:dQ) (c:Nat) (p:Nat × Nat),(UA φ bs)[c]?=some (some p)->φ[c]?=some (some p)/\c∉bs
 |[],φ,c,p,h=>⟨h,by simp⟩
 |b::r,φ,c,p,h=>by
   obtain⟨h1,h2⟩:=O4 r (φ.set b none) c p h;rw[bg] at h1;split at h1
   ·split at h1<;>simp at h1
   ·rename_i Mr;exact⟨h1,by simp[h2]; exact fun e=>Mr e.symm⟩

theorem cK.move {X:Nat->Prop} {φ:dQ} {w w':World} {H:Heap} (h:cK X φ w H) {b g sz:Nat} {arr arr':Array Value} {e:TypeId} {cs':List AV}
  (kV:φ[b]?=some (some (g,sz))) (hg:w.heap[g]?=some (.cells arr e (0,0))) (qj:arr.size=sz) (hs:arr'.size=arr.size) (hw:w'=w.setRow g arr') (hX:¬X g)
  (hl:cs'.length<=arr'.size) (hc:∀(i:Nat) (c:AV),cs'[i]?=some c->∃u,arr'[i]?=some u/\cB (Rd X φ w) φ c u) :
  cK X (φ.set b none++[some (g,sz)]) w' (H.set b none++[some cs'])/\fU φ w (φ.set b none++[some (g,sz)]) w':=by
 subst hw;have hbl:b<φ.length:=aC kV
 have look:∀(c:Nat) (p:Nat × Nat),(φ.set b none++[some (g,sz)])[c]?=some (some p)->(c<φ.length/\c≠b/\φ[c]?=some (some p))\/(c=φ.length/\p=(g,sz)):=by
  intro c p hc;by_cases bD:c<φ.length
  ·rw[aB (by simpa using bD),bg] at hc;split at hc
   ·simp_all
   ·rename_i Mr; exact .inl ⟨bD,fun e=>Mr e.symm,hc⟩
  ·have iK:=aC hc;simp at iK;have DB:c=φ.length:=by omega
   subst DB;rw[aR (by simp)] at hc;simp at hc;exact .inr ⟨rfl,hc.symm⟩
 have a:fU φ w (φ.set b none++[some (g,sz)]) (w.setRow g arr'):=by
  refine⟨rfl,rfl,rfl,aY _,by simp,fun k _ ho=>⟨setRow_other w g k _ (fun e=>ho ⟨b,sz,e▸kV⟩),?_⟩,⟨by simp,fun c p hc hp=>?_⟩⟩
  ·intro⟨c,s,hc⟩;rcases look c _ hc with⟨_,_,h1⟩|⟨_,h1⟩
   ·exact ho ⟨c,s,h1⟩
   ·simp at h1; exact ho ⟨b,sz,h1.1▸kV⟩
  ·rcases look c p hp with⟨_,_,h1⟩|⟨h1,_⟩
   ·exact h1
   ·omega
 refine⟨⟨by simp[h.len],fun k hk=>by simpa using h.FC k hk,fun c ds hb=>?_,fun c hb=>?_,fun c c' k s s' h1 h2=>?_⟩,a⟩
 ·by_cases bD:c<H.length
  ·rw[aB (by simpa using bD),bg] at hb;split at hb
   ·split at hb<;>simp at hb
   ·rename_i Mr;obtain⟨g',nF,ar,e',h1,h2,h3,h4,h5,h6⟩:=h.live c ds hb;refine⟨g',nF,ar,e',?_,?_,h3,h4,h5,fun i c hi=>?_⟩
    ·rw[aB (by simp[h.len,bD]),bg,if_neg Mr]; exact h1
    ·rw[setRow_other w g g' _ (fun eq=>Mr (h.inj b c g sz nF kV (eq▸h1)))]; exact h2
    ·obtain⟨u,hu,r⟩:=h6 i c hi;exact⟨u,hu,a.rep r⟩
  ·have iK:=aC hb;simp at iK;have DB:c=H.length:=by omega
   subst DB;rw[aR (by simp)] at hb;simp at hb;subst hb;refine⟨g,sz,arr',e,?_,setRow_heap w g arr arr' e _ hg,by omega,by omega,hX,fun i c hi=>?_⟩
   ·rw[aR (by simp[h.len])]; simp[h.len]
   ·obtain⟨u,hu,r⟩:=hc i c hi;exact⟨u,hu,a.rep r⟩
 ·by_cases bD:c<H.length
  ·rw[aB (by simpa using bD),bg] at hb;rw[aB (by simp[h.len,bD]),bg];split at hb
   ·rename_i Mr;rw[if_pos Mr,if_pos (by omega)]
   ·rename_i Mr;rw[if_neg Mr]; exact h.dead c hb
  ·have iK:=aC hb;simp at iK;have DB:c=H.length:=by omega
   subst DB;rw[aR (by simp)] at hb;simp at hb
 ·rcases look c _ h1 with⟨l1,n1,e1⟩|⟨l1,e1⟩<;>rcases look c' _ h2 with⟨l2,n2,e2⟩|⟨l2,e2⟩
  ·exact h.inj c c' k s s' e1 e2
  ·simp at e2; exact absurd (h.inj c b k s sz e1 (e2.1▸kV)) n1
  ·simp at e1; exact absurd (h.inj c' b k s' sz e2 (e1.1▸kV)) n2
  ·omega

theorem Dy {n:Nat}:∀{H:Heap},Dz n H=true->∀(b:Nat) (cs:List AV),H[b]?=some (some cs)->rR n cs=true
 |[],_,b,cs,hb=>by simp at hb
 |none::r,h,b,cs,hb=>by
   cases b with
   |zero=>simp at hb
   |succ b=>simp at hb; exact Dy (H:=r) (by simpa[Dz] using h) b cs hb
 |some ds::r,h,b,cs,hb=>by
   simp only[Dz,ae] at h;cases b with
   |zero=>simp at hb; subst hb; exact h.1
   |succ b=>simp at hb; exact Dy (H:=r) h.2 b cs hb
theorem Kn {φ:dQ} {n g:Nat} (h:bQ (φ.take n) g):bQ φ g:=by
 obtain⟨b,sz,hb⟩:=h;rw[bN] at hb;split at hb
 ·exact⟨b,sz,hb⟩
 ·simp at hb
theorem Yr {X:Nat->Prop} {φ:dQ} {w:World} {n:Nat}:∀a u,Rd X φ w a u->Rd X (φ.take n) w a u:=fun _ _ ⟨h1,h2,h3⟩=>⟨h1,fun h=>h2 (Kn h),h3⟩
theorem cK.take {X:Nat->Prop} {φ:dQ} {w:World} {H:Heap} (h:cK X φ w H) {n:Nat} (hn:n<=H.length) (dG:Dz n (H.take n)=true):cK X (φ.take n) w (H.take n):=by
 refine⟨by simp[h.len],h.FC,fun b cs hb=>?_,fun b hb=>?_,fun b b' g sz nF h1 h2=>?_⟩
 ·have hr:=Dy dG b cs hb;have bD:b<n:=by have:=aC hb; simp at this; omega
  rw[bm bD] at hb;obtain⟨g,sz,ar,e,h1,h2,h3,h4,h5,h6⟩:=h.live b cs hb;refine⟨g,sz,ar,e,by rw[bm bD]; exact h1,h2,h3,h4,h5,fun i c hi=>?_⟩;obtain⟨u,hu,r⟩:=h6 i c hi;exact⟨u,hu,(r.take (pJ hr i c hi)).mono Yr (.refl _)⟩
 ·have bD:b<n:=by have:=aC hb; simp at this; omega
  rw[bm bD] at hb ⊢;exact h.dead b hb
 ·rw[bN] at h1 h2;split at h1<;>split at h2<;>first|exact h.inj b b' g sz nF h1 h2|(first|simp at h1|simp at h2)
theorem fU.take {φ φ':dQ} {w w':World} (h:fU φ w φ' w'):fU φ w (φ'.take φ.length) w':=
 ⟨h.os,h.tape,h.output,h.drawn,h.size,fun g hg ho=>⟨(h.keep g hg ho).1,fun hx=>(h.keep g hg ho).2 (Kn hx)⟩,
  ⟨by rw[bF]; have:=h.ZA.len; omega,fun b p hb hp=>h.ZA.OJ b p hb (by rwa [bm hb] at hp)⟩⟩

/-! Freezing -/
theorem vL {f:AV->Option (AV × List Nat)}:∀{xs ys:List AV} {bs:List Nat},Gb f xs=some (ys,bs) ->
  ys.length=xs.length/\∀ (i:Nat) (x:AV),xs[i]?=some x->∃y b,f x=some (y,b)/\ys[i]?=some y/\∀ c∈b,c∈bs
 |[],ys,bs,h=>by simp[Gb] at h; obtain⟨rfl,rfl⟩:=h; exact⟨rfl,fun i x hx=>by simp at hx⟩
 |x::r,ys,bs,h=>by
   simp only[Gb] at h;split at h
   ·rename_i y b DP bs' h1 h2;simp at h;obtain⟨rfl,rfl⟩:=h;obtain⟨hl,hm⟩:=vL h2;refine⟨by simp[hl],fun i z hz=>?_⟩;cases i with
    |zero=>simp at hz; subst hz; exact⟨y,b,h1,by simp,fun c hc=>by simp[hc]⟩
    |succ i=>
      simp at hz;obtain⟨y',b',e1,e2,e3⟩:=hm i z hz;exact⟨y',b',e1,by simpa using e2,fun c hc=>by simp[e3 c hc]⟩
   ·cases h
theorem vU (l:List AV):(el l).cells=l:=by
 unfold el;split<;>first|rfl|skip
 rename_i x hx;cases x<;>first|rfl|(exact absurd rfl (hx _))
theorem Lv (k:Nat):∀(n:Nat) (ys:List AV),n*k<=ys.length->(VU k n ys).length=n/\∀ (i:Nat) (x:AV),(VU k n ys)[i]?=some x->x.cells=(ys.drop (i*k)).take k/\i<n
 |0,ys,_=>⟨rfl,fun i x hx=>by simp[VU] at hx⟩
 |n+1,ys,h=>by
   have h':n*k<=(ys.drop k).length:=by rw[eS]; rw[cT] at h; omega
   obtain⟨hl,hm⟩:=Lv k n (ys.drop k) h';refine⟨by simp[VU,hl],fun i x hx=>?_⟩;cases i with
   |zero=>simp[VU] at hx; subst hx; rw[vU]; simp
   |succ i=>
     simp[VU] at hx;obtain⟨e1,e2⟩:=hm i x hx;refine⟨?_,by omega⟩;rw[e1,List.drop_drop];congr 2;rw[cT]; omega
theorem gN {w:World} {g:Nat} {arr:Array Value} {e:TypeId} {fr:Nat × Nat} (h:w.heap[g]?=some (.cells arr e fr)) (o:Nat):w.cell? ⟨g,o,none⟩=arr[o]?:=cell_of_row w g o arr e fr h

theorem IU {X:Nat->Prop} {φ:dQ} {w:World} {H:Heap} (h:cK X φ w H) {R:Addr->Value->Prop} (hR:∀a u,Rd X φ w a u->R a u) :
  ∀ (n:Nat) (x y:AV) (v:Value) (bs:List Nat),GB H n x=some (y,bs) ->
   (∀b∈bs,∀g sz:Nat,φ[b]?=some (some (g,sz))->∀o u,w.cell? ⟨g,o,none⟩=some u->R ⟨g,o,none⟩ u)->cB (Rd X φ w) φ x v->cB R [] y v
 |0,_,_,_,_,hf,_,_=>by simp[GB] at hf
 |n+1,x,y,v,bs,hf,hb,r=>by
   have ih:=IU h hR n
   have many:∀{cs ys:List AV} {bs':List Nat} {vs:Array Value},Gb (GB H n) cs=some (ys,bs')->(∀b∈bs',b∈bs)->cs.length=vs.size ->
     (∀(i:Nat) (c:AV) (v:Value),cs[i]?=some c->vs[i]?=some v->cB (Rd X φ w) φ c v) ->
     ys.length=vs.size/\∀ (i:Nat) (c:AV) (v:Value),ys[i]?=some c->vs[i]?=some v->cB R [] c v:=by
    intro cs ys bs' vs hm rY hl hr;obtain⟨Pd,Xa⟩:=vL hm;refine⟨by omega,fun i c v hc hv=>?_⟩;obtain⟨x,hx⟩:=bu (l:=cs) (i:=i) (by have:=aC hc; omega);obtain⟨y,b,e1,e2,e3⟩:=Xa i x hx;rw[e2] at hc;simp at hc;subst hc;exact ih x _ v b e1 (fun b' iK=>hb b' (rY _ (e3 b' iK))) (hr i x v hx hv)
   cases x with
   |ptr b off=>
     simp only[GB] at hf;split at hf
     ·rename_i cs eM;split at hf
      ·rename_i ys bs' hm;simp at hf;obtain⟨rfl,rfl⟩:=hf;obtain⟨g,sz,arr,e,h1,h2,h3,h4,h5,h6⟩:=h.at eM;obtain⟨Pd,Xa⟩:=vL hm;cases r with
       |ptr _ _ _ a hbl ha=>
         obtain rfl:=ha g sz h1;refine .dV _ _ _ (fun j=>arr[off+j]?.getD undef) (fun j c hc=>?_) (fun j c hc=>?_)
         ·obtain⟨x,hx⟩:=bu (l:=cs.drop off) (i:=j) (by have:=aC hc; omega);rw[br] at hx;obtain⟨u,hu,_⟩:=h6 _ _ hx;rw[Addr.jP];refine hb b (by simp) g sz h1 _ _ ?_;rw[gN h2,hu]; simp
         ·obtain⟨x,hx⟩:=bu (l:=cs.drop off) (i:=j) (by have:=aC hc; omega);obtain⟨y,b',e1,e2,e3⟩:=Xa j x hx;rw[e2] at hc;simp at hc;subst hc;rw[br] at hx;obtain⟨u,hu,r⟩:=h6 _ _ hx;refine ih x _ _ b' e1 (fun c hc=>hb c (by simp[e3 c hc])) ?_;rw[hu]; exact r
      ·cases hf
     ·cases hf
   |sl k b off len=>
     simp only[GB] at hf;split at hf
     ·rename_i cs eM;split at hf
      ·rename_i p7;split at hf
       ·rename_i ys bs' hm;simp at hf;obtain⟨rfl,rfl⟩:=hf;obtain⟨g,sz,arr,e,h1,h2,h3,h4,h5,h6⟩:=h.at eM;obtain⟨Pd,Xa⟩:=vL hm;have Lq:ys.length=len*k:=by rw[Pd,bF,eS]; omega
        obtain⟨gl,gm⟩:=Lv k len ys (by omega);cases r with
        |sl _ _ _ _ _ a cap hbl hc ha=>
          obtain⟨U0,je⟩:=ha g sz h1;by_cases Ls:0<cap
          case neg=>
           have UR:len=0:=by omega
           subst UR;refine .oa _ _ _ _ _ _ (fun _ _=>undef) gl.symm hc (fun x hx=>?_) (fun i j x c hx hc=>?_) (fun i j x c hx hc=>?_)
           all_goals simp[VU] at hx
          obtain rfl:=U0 Ls
          have key:∀(i j:Nat) (x c:AV),(VU k len ys)[i]?=some x->x.cells[j]?=some c->i*k+j<len*k/\j<k/\ys[i*k+j]?=some c:=by
           intro i j x c hx hc;obtain⟨e1,e2⟩:=gm i x hx;rw[e1,bN] at hc;split at hc
           ·rename_i hj;rw[br] at hc;have:=aC hc;exact⟨by omega,hj,hc⟩
           ·cases hc
          refine .oa _ _ _ _ _ _ (fun i j=>arr[off+(i*k+j)]?.getD undef) gl.symm hc (fun x hx=>?_) (fun i j x c hx hc=>?_) (fun i j x c hx hc=>?_)
          ·obtain⟨i,hi⟩:=bH hx;obtain⟨e1,e2⟩:=gm i x hi;rw[e1,bF,eS,Lq];have:i*k+k<=len*k:=by rw[<-Nat.succ_mul]; exact bS _ e2
           omega
          ·obtain⟨k1,k2,k3⟩:=key i j x c hx hc;obtain⟨z,hz⟩:=bu (l:=(cs.drop off).take (len*k)) (i:=i*k+j) (by have:=aC k3; omega);rw[bm k1,br] at hz;obtain⟨u,hu,_⟩:=h6 _ _ hz;rw[Addr.jP];refine hb b (by simp) g sz h1 _ _ ?_;rw[gN h2,hu]; simp
          ·obtain⟨k1,k2,k3⟩:=key i j x c hx hc;obtain⟨z,hz⟩:=bu (l:=(cs.drop off).take (len*k)) (i:=i*k+j) (by have:=aC k3; omega);obtain⟨y,b',e1,e2,e3⟩:=Xa _ z hz;rw[e2] at k3;simp at k3;subst k3;rw[bm k1,br] at hz;obtain⟨u,hu,r⟩:=h6 _ _ hz;refine ih z _ _ b' e1 (fun c hc=>hb c (by simp[e3 c hc])) ?_;rw[hu]; exact r
       ·cases hf
      ·cases hf
     ·cases hf
   |agg cs=>
     simp only[GB] at hf;split at hf
     ·rename_i ys bs' hm;simp at hf;obtain⟨rfl,rfl⟩:=hf;cases r with
      |agg _ _ vs hl hr=>
        obtain⟨l1,r1⟩:=many hm (fun _ h=>h) hl hr;exact .agg _ _ _ l1 r1
     ·cases hf
   |dJ cs=>
     simp only[GB] at hf;split at hf
     ·rename_i ys bs' hm;simp at hf;obtain⟨rfl,rfl⟩:=hf;cases r with
      |dJ _ _ vs hl hr=>
        obtain⟨l1,r1⟩:=many hm (fun _ h=>h) hl hr;exact .dJ _ _ _ l1 r1
     ·cases hf
   |func f as cs=>
     simp only[GB] at hf;split at hf
     ·rename_i ys bs1 zs bs2 hm1 hm2;simp at hf;obtain⟨rfl,rfl⟩:=hf;cases r with
      |func _ _ _ va _ vb HN HM ha iK=>
        obtain⟨l1,r1⟩:=many hm1 (fun _ h=>by simp[h]) HN ha;obtain⟨l2,r2⟩:=many hm2 (fun _ h=>by simp[h]) HM iK;exact .func _ _ _ _ _ _ l1 l2 r1 r2
     ·cases hf
   |_=>
     simp only[GB,ai,aP] at hf;obtain⟨rfl,rfl⟩:=hf;exact (r.dY rfl []).mono hR (.refl _)
end Go.Am

/- The check that ties compact operations to the operations of the dump. -/
namespace Go.Am

def PC:Value->AV->Bool
 |.bool a,.bool b=>a == b
 |.int k n,.int k' m=>decide (k=k')&&decide (n=m)
 |.slice none 0 0,.dO=>true
 |.pointer none,.gq=>true
 |.nilFunc,.gz=>true
 |.tuple vs,.undef=>vs.isEmpty
 |_,_=>false
def tp:List Value->List AV->Bool
 |[],[]=>true
 |v::r,x::s=>PC v x&&tp r s
 |_,_=>false
def chkV:Value->AV->Bool
 |.agg cs,.agg ds=>tp cs.toList ds
 |v,x=>PC v x
def dF:Operand->E->Bool
 |.tmp t,.t i=>decide (t=i)
 |.const v,.k x=>chkV v x
 |.func f,.k (.func (.func g) [] [])=>decide (f=g)
 |.global g,.g i=>decide (g=i)
 |_,_=>false
def jW:List Operand->List E->Bool
 |[],[]=>true
 |x::r,y::s=>dF x y&&jW r s
 |_,_=>false
def tu:Option Operand->Option E->Bool
 |none,none=>true
 |some x,some y=>dF x y
 |_,_=>false
def tq (place:Nat->Option (Nat × Nat)):List (Nat × Operand)->List (Nat × Nat × E)->Bool
 |[],[]=>true
 |(i,x)::r,(off,sz,y)::s=>decide (place i=some (off,sz))&&dF x y&&tq place r s
 |_,_=>false

def qe (P:Program) (t:TypeId):Option (Option Nat):=
 match P.underlying t with
 |some (.struct _)|some (.array _ _)=>match P.info? t with
   |some i=>some (some i.size)
   |none=>none
 |some _=>some none
 |none=>none
def oi (P:Program) (t:TypeId) (k:Nat):Bool:=
 match P.info? t with
 |some i=>decide (i.size=k)
 |none=>false
def qm (P:Program) (t:TypeId) (zs:List AV):Bool:=
 match P.info? t with
 |some i=>match i.zero with
   |some z=>tp z.cells.toList zs&&bG zs
   |none=>false
 |none=>false
def jK (P:Program) (t:TypeId) (k:Nat):Bool:=
 match P.underlying t with
 |some (.slice e)=>match P.info? e with
   |some i=>decide (i.size=k)&&decide (0<k)&&decide (i.bytes<=1024)&&(match i.zero with
     |some z=>decide (z.cells.size=k)
     |none=>false)
   |none=>false
 |_=>false
def jf (P:Program) (t:TypeId) (zs:List AV):Bool:=
 match P.underlying t with
 |some (.slice e)=>qm P e zs
 |_=>false
def tP (P:Program) (fs:Array Field) (i:Nat):Option (Nat × Nat):=
 match fs[i]? with
 |some f=>match P.info? f.type with
   |some j=>some (f.offset,j.size)
   |none=>none
 |none=>none
def GC (P:Program):Nat->List Field->List Bool->Bool
 |_,[],[]=>true
 | o, f :: r, b :: s => decide (f.offset = o) && decide (f.name ≠ "_") && (match P.underlying f.type with
   |some (.int _)=>b
   |some .bool=>!b
   |_=>false)&&GC P (o+1) r s
 |_,_,_=>false
def LU (P:Program) (t:TypeId):Et->Bool
 |.bool=>match P.underlying t with
   |some .bool=>true
   |_=>false
 |.WN=>match P.underlying t with
   |some (.slice _)=>true
   |_=>false
 |.Kz=>match P.underlying t with
   |some (.pointer _)=>true
   |_=>false
 |.nfn=>match P.underlying t with
   |some (.func _ _ _)=>true
   |_=>false
 |.str l=>match P.underlying t with
   |some (.struct fs)=>!P.stoodInHeld t&&!P.eqGuardType P.depth t&&GC P 0 fs.toList l
   |_=>false
def isSlice (P:Program) (t:TypeId):Bool:=
 match P.underlying t with
 |some (.slice _)=>true
 |_=>false

def eqOp:BinOp->Bool->Bool
 |.eql,ng=>!ng
 |.neq,ng=>ng
 |_,_=>false
def dz (P:Program):Op->Kd->Bool
 |.move x,.mv y=>dF x y
 |.assign x,.mv y=>dF x y
 |.pick c a b,.pick c' a' b'=>dF c c'&&dF a a'&&dF b b'
 |.alloc t,.new zs=>qm P t zs
 |.box _ x,.box y=>dF x y
 |.build t ps,.build zs qs=>qm P t zs&&(match P.underlying t with
   |some (.struct fs)=>(fs.toList.all fun f=>(P.info? f.type).isSome)&&tq (tP P fs) ps.toList qs
   |some (.array _ e)=>match P.info? e with
     |some i=>tq (fun j=>some (j*i.size,i.size)) ps.toList qs
     |none=>false
   |_=>false)
 |.buildSlice t n ps,.dK k m zs qs=>decide (n=m)&&jK P t k&&jf P t zs&&decide (n*k<=16777216)&&tq (fun j=>some (j*k,k)) ps.toList qs
 |.load t a,.ld ag y=>decide (qe P t=some ag)&&dF a y
 |.store t a v,.st k b y=>oi P t k&&dF a b&&dF v y
 |.nilCheck x,.nK y=>dF x y
 |.binOp op _ x y _,.bin op' x' y'=>decide (op=op')&&dF x x'&&dF y y'
 |.binOp op t x y _,.eq ng et x' y'=>eqOp op ng&&LU P t et&&dF x x'&&dF y y'
 |.unOp op _ x,.un op' y=>decide (op=op')&&dF x y
 |.convert s d x,.HX k y=>(P.underlying s).isSome&&(match P.underlying d with
   |some (.int k')=>decide (k=k')
   |_=>false)&&dF x y
 |.makeFunc fn as bs,.VP fn' cs ds=>decide (fn=fn')&&jW as.toList cs&&jW bs.toList ds
 |.makeSlice t l c,.KR k zs l' c'=>jK P t k&&jf P t zs&&dF l l'&&dF c c'
 |.slice t x lo hi none,.D5 k y lo' Ba=>jK P t k&&dF x y&&tu lo lo'&&tu hi Ba
 |.fieldAddr s x f,.fk off y=>(match P.underlying s with
   |some (.struct fs)=>match fs[f]? with
     |some fd=>decide (fd.offset=off)&&(match P.info? fd.type with
       |some i=>decide (i.size≠0)
       |none=>false)
     |none=>false
   |_=>false)&&dF x y
 |.field s x f,.fld off ag y=>(match P.underlying s with
   |some (.struct fs)=>match fs[f]? with
     |some fd=>decide (fd.offset=off)&&decide (qe P fd.type=some ag)
     |none=>false
   |_=>false)&&dF x y
 |.indexAddr t x i,.fm k y j=>jK P t k&&dF x y&&dF i j
 |.indexAddr t x i,.Ig n k y j=>(match P.underlying t with
   |some (.array n' e)=>decide (n=n')&&oi P e k
   |_=>false)&&dF x y&&dF i j
 |.index t x i,.ix n k ag y j=>(match P.underlying t with
   |some (.array n' e)=>decide (n=n')&&oi P e k&&decide (qe P e=some ag)
   |_=>false)&&dF x y&&dF i j
 |.index t (.const (.string s)) i,.ixs tab j=>(match P.underlying t with
   |some .string=>true
   |_=>false)&&decide (s.data.toList.map (·.toNat)=tab)&&dF i j
 |.call { callee:=.builtin .clear,args,argTypes },.Vv k zs x=>(match args.toList,argTypes.toList with
   |[x'],[t]=>jK P t k&&jf P t zs&&dF x' x
   |_,_=>false)
 |.extract x i,.ext j y=>decide (i=j)&&dF x y
 |.call { callee:=.value (.func f),args,argTypes:=_ },.call g xs=>decide (f=g)&&jW args.toList xs
 |.call { callee:=.value x,args,argTypes:=_ },.jM y xs=>dF x y&&jW args.toList xs
 |.call { callee:=.builtin .len,args,argTypes },.len y=>(match args.toList,argTypes.toList with
   |[x],[t]=>isSlice P t&&dF x y
   |_,_=>false)
 |.call { callee:=.builtin .append,args,argTypes },.app k x y=>(match args.toList,argTypes.toList with
   |[x',y'],[t,t']=>decide (t=t')&&jK P t k&&dF x' x&&dF y' y
   |_,_=>false)
 |.call { callee:=.builtin .min,args,argTypes:=_ },.min xs=>jW args.toList xs
 |.call { callee:=.builtin .max,args,argTypes:=_ },.max xs=>jW args.toList xs
 |.slice t x none hi none,.Nd n y Ba=>(match P.underlying t with
   |some (.array n' e)=>decide (n=n')&&oi P e 1
   |_=>false)&&(dF x y&&tu hi Ba)
 |.call { callee:=.builtin .copy,args,argTypes },.copy k x y=>(match args.toList,argTypes.toList with
   |[x',y'],[t,_]=>jK P t k&&dF x' x&&dF y' y
   |_,_=>false)
 |_,.bad=>true
 |_,_=>false

def RT (P:Program) (N:Nat) (ops:Array Oper) (o:Oper) (q:O):Bool:=
 decide (o.dst=q.dst)&&(match q.dst with
  |some d=>decide (d<N)
  |none=>true)&&(match o.guard,q.guard with
  |none,none=>true
  |some (j,want),some (g,ain)=>decide ((ops[j]?).bind (·.dst)=some g)&&decide (want=ain)
  |_,_=>false)&&dz P o.op q.kd
def ajq (P:Program) (N:Nat) (ops:Array Oper):List Oper->List O->Bool
 |[],[]=>true
 |o::r,q::s=>RT P N ops o q&&ajq P N ops r s
 |_,_=>false
def kC (x y:O):Bool:=
 (match x.dst with
  |some d=>!mem d y.reads&&decide (y.dst≠some d)
  |none=>true) &&
 (match y.dst with
  |some d=>!mem d x.reads
  |none=>true)
def kL (i j:Nat):List (Nat × Nat)->Bool
 |[]=>false
 |p::r=>(decide (p.1=i)&&decide (p.2=j))||kL i j r
def direct (y:Oper):List Nat:=(y.after.toList.filter fun e=>Region.binds .any e).map (·.on)
def dedup:List Nat->List Nat
 |[]=>[]
 |x::r=>if mem x (dedup r) then dedup r else x::dedup r
def Mf (Fw:List (List Nat)) (y:Oper):List Nat:=dedup (direct y++(dedup (direct y)).flatMap fun i=>Fw.getD i [])
def ah0 (un:List (Nat × Nat)) (i j:Nat) (x:O) (ys:List Nat) (q:O):Bool:=mem i ys||(kC x q&&(x.kd.pure||q.kd.pure||kL i j un))
def PD (un:List (Nat × Nat)) (j:Nat) (ys:List Nat) (q:O):Nat->List O->Bool
 |_,[]=>true
 |i,x::r=>ah0 un i j x ys q&&PD un j ys q (i+1) r
def Vz (un:List (Nat × Nat)) (Fw:List (List Nat)) (seen:List O):List Oper->List O->Bool
 |y::r,q::s=>((direct y).all fun i=>decide (i<seen.length))&&PD un seen.length (Mf Fw y) q 0 seen&&Vz un (Fw++[Mf Fw y]) (seen++[q]) r s
 |_,_=>true
def chk (P:Program) (N:Nat):Code->C->Bool
 |.skip,.skip=>true
 |.ret,.ret=>true
 |.exit i,.exit j=>decide (i=j)
 |.region _ ops d,.aN os dr un _=>decide (d=dr)&&ajq P N ops ops.toList os&&(!dr||Vz un [] [] ops.toList os)
 |.seq a b,.seq x y=>chk P N a x&&chk P N b y
 |.cond c a b,.cond c' x y=>dF c c'&&chk P N a x&&chk P N b y
 |.block i b,.aO j x=>decide (i=j)&&chk P N b x
 |.loop b,.loop x=>chk P N b x
 |.label _,.skip=>true
 |.scope b,.seq .skip x=>chk P N b x
 |_,_=>false
def chkR (P:Program):ResultVar->Rv->Bool
 |.tmp t,.t i=>decide (t=i)
 |.cell a t,.c i ag=>decide (a=i)&&decide (qe P t=some ag)
 |_,_=>false
def H6 (P:Program):List ResultVar->List Rv->Bool
 |[],[]=>true
 |x::r,y::s=>chkR P x y&&H6 P r s
 |_,_=>false
def chkF (P:Program) (fn:Func) (q:fK):Bool:=
 decide (fn.ntmps = q.n) && !(fn.name == "runtime.NumGoroutine") && H6 P fn.results.toList q.res && (match fn.body with
  |some c=>chk P q.n c q.body
  |none=>false)
structure VK (P:Program) (c:fe):Prop where
 mixed:P.follows .mixedOrders=true
 fn:∀f m q,c.fn f=some (m,q)->∃fn,P.funcs[f]?=some fn/\chkF P fn q=true
end Go.Am

/- What one operation of the dump does is what the compact operation says: the operations that call nothing. -/
namespace Go.Am

def e9 (c:fe) (X:Nat->Prop) (φ:dQ) (w:World):Prop:=∀g,cB (Rd X φ w) [] (.dV (c.gl g)) (.pointer (some ⟨g,0,none⟩))
theorem e9.m6 {c:fe} {X:Nat->Prop} {φ φ':dQ} {w w':World} (h:e9 c X φ w) (a:fU φ w φ' w'):e9 c X φ' w':=fun g=>(h g).mono a.rd (.refl _)

def Ok (P:Program) (X:Nat->Prop) (φ:dQ) (w:World) (o:Oper) (a:Act) (v:AV) (H':Heap):Prop:=
 ∀ (K:Act->World->Prop) (Q:Exit->Act->World->Prop),(∀v' w' φ',cB (Rd X φ' w') φ' v v'->cK X φ' w' H'->fU φ w φ' w'->K (a.put o.dst v') w')->o.wp P a w K Q

section
variable {P:Program} {c:fe} {X:Nat->Prop} {φ:dQ} {w:World} {env:Env} {H:Heap} {a:Act} {o:Oper}

theorem Ok.value {v:AV} {v':Value} {w':World} {H':Heap} {φ':dQ} (hr:(execOp a.eval o).run P w=.ok (.value v') w') (r:cB (Rd X φ' w') φ' v v') (h:cK X φ' w' H') (k:fU φ w φ' w'):Ok P X φ w o a v H':=by
 intro K Q hK;unfold Oper.wp;rw[hr];exact hK v' w' φ' r h k
theorem Ok.quiet {v:AV} {v':Value} (hr:(execOp a.eval o).run P w=.ok (.value v') w) (r:cB (Rd X φ w) φ v v') (h:cK X φ w H):Ok P X φ w o a v H:=Ok.value hr r h (.refl _ _)
theorem Ok.skip {w':World} {H':Heap} {φ':dQ} (hr:(execOp a.eval o).run P w=.ok .skip w') (h:cK X φ' w' H') (k:fU φ w φ' w'):Ok P X φ w o a .undef H':=by
 intro K Q hK;unfold Oper.wp;rw[hr];exact hK undef w' φ' (.undef _) h k

theorem PB {R:Addr->Value->Prop} {ψ:dQ} {v:Value} {x:AV} (h:PC v x=true):cB R ψ x v:=by
 unfold PC at h;split at h
 ·simp at h; subst h; exact .bool _ _
 ·simp at h; obtain⟨rfl,rfl⟩:=h; exact .int _ _ _
 ·exact .dO _
 ·exact .gq _
 ·exact .gz _
 ·rename_i vs;have:vs=#[]:=by simpa using h
  subst this;exact .undef _
 ·cases h
theorem GJ {R:Addr->Value->Prop} {ψ:dQ}:∀{vs:List Value} {xs:List AV},tp vs xs=true->xs.length=vs.length/\∀ (i:Nat) (x:AV) (v:Value),xs[i]?=some x->vs[i]?=some v->cB R ψ x v
 |[],[],_=>⟨rfl,fun i x v hx=>by simp at hx⟩
 |[],_::_,h=>by simp[tp] at h
 |_::_,[],h=>by simp[tp] at h
 |v::r,x::s,h=>by
   simp only[tp,ae] at h;obtain⟨hl,hm⟩:=GJ (R:=R) (ψ:=ψ) h.2;refine⟨by simp[hl],fun i y u hy hu=>?_⟩;cases i with
   |zero=>simp at hy hu; subst hy; subst hu; exact PB h.1
   |succ i=>simp at hy hu; exact hm i y u hy hu
theorem afy {R:Addr->Value->Prop} {ψ:dQ} {v:Value} {x:AV} (h:chkV v x=true):cB R ψ x v:=by
 unfold chkV at h;split at h
 ·rename_i cs ds;obtain⟨hl,hm⟩:=GJ (R:=R) (ψ:=ψ) h;exact .agg _ _ _ (by simpa using hl) fun i x v hx hv=>hm i x v hx (by simpa using hv)
 ·exact PB h
theorem cF (he:qf X φ w env a.tmps) (hg:e9 c X φ w) {x:Operand} {y:E} (h:dF x y=true):cB (Rd X φ w) φ (ev c env y) (a.eval x):=by
 unfold dF at h;split at h
 ·simp at h; subst h; exact he _
 ·exact afy h
 ·simp at h; subst h;exact .func _ _ _ _ _ _ rfl rfl (fun i c v hc=>by simp at hc) (fun i c v hc=>by simp at hc)
 ·simp at h; subst h; exact (hg _).dY rfl _
 ·cases h

def tC (X:Nat->Prop) (φ:dQ) (w:World) (xs:List AV) (vs:Array Value):Prop:=xs.length=vs.size/\∀ (i:Nat) (x:AV) (v:Value),xs[i]?=some x->vs[i]?=some v->cB (Rd X φ w) φ x v
theorem oX (he:qf X φ w env a.tmps) (hg:e9 c X φ w):∀{xs:List Operand} {ys:List E},jW xs ys=true ->
  (IW c env ys).length=xs.length/\∀ (i:Nat) (x:AV) (v:Value),(IW c env ys)[i]?=some x->(xs.map a.eval)[i]?=some v->cB (Rd X φ w) φ x v
 |[],[],_=>⟨rfl,fun i x v hx=>by simp[IW] at hx⟩
 |[],_::_,h=>by simp[jW] at h
 |_::_,[],h=>by simp[jW] at h
 |x::r,y::s,h=>by
   simp only[jW,ae] at h;obtain⟨hl,hm⟩:=oX he hg h.2;refine⟨by simp[IW,hl],fun i z v hz hv=>?_⟩;cases i with
   |zero=>simp[IW] at hz hv; subst hz; subst hv; exact cF he hg h.1
   |succ i=>simp[IW] at hz; simp at hv; exact hm i z v hz (by simpa using hv)

/-! Places -/
def Sn (X:Nat->Prop) (φ:dQ) (w:World) (cs:List AV) (ad:Addr):Prop:=∀(j:Nat) (x:AV),cs[j]?=some x->∃u,w.cell? (ad.add j)=some u/\cB (Rd X φ w) φ x u
theorem cB.EU {R:Addr->Value->Prop} {x:AV} {v:Value} (h:cB R [] x v) (φ:dQ):cB R φ x v:=h.mono (fun _ _ h=>h) ⟨Nat.zero_le _,fun b p hb=>by simp at hb⟩
theorem Sn.ZR {cs:List AV} {v:Value} (h:cB (Rd X φ w) φ (.dV cs) v):∃ad,v=.pointer (some ad)/\Sn X φ w cs ad:=by
 cases h with
 |dV _ _ ad u hu h=>exact⟨ad,rfl,fun j x hx=>⟨u j,(hu j x hx).2.2,(h j x hx).EU φ⟩⟩
theorem Sn.WL (hh:cK X φ w H) {b off:Nat} {cs:List AV} (hb:aO H b=some cs) {v:Value} (h:cB (Rd X φ w) φ (.ptr b off) v) :
  ∃ g sz arr e,v=.pointer (some ⟨g,off,none⟩)/\φ[b]?=some (some (g,sz))/\w.heap[g]?=some (.cells arr e (0,0))/\arr.size=sz/\cs.length<=sz/\¬ X g /\
   (∀(i:Nat) (c:AV),cs[i]?=some c->∃u,arr[i]?=some u/\cB (Rd X φ w) φ c u)/\Sn X φ w (cs.drop off) ⟨g,off,none⟩:=by
 obtain⟨g,sz,arr,e,h1,h2,h3,h4,h5,h6⟩:=hh.at hb;cases h with
 |ptr _ _ _ ad hbl hp=>
   obtain rfl:=hp g sz h1;refine⟨g,sz,arr,e,rfl,h1,h2,h3,h4,h5,h6,fun j x hx=>?_⟩;rw[br] at hx;obtain⟨u,hu,r⟩:=h6 _ _ hx;exact⟨u,by rw[Addr.jP,gN h2]; exact hu,r⟩
theorem Sn.values {cs:List AV} {ad:Addr} (h:Sn X φ w cs ad):∀n,n<=cs.length->∃vs:List Value,vs.length=n/\(∀(j:Nat) (v:Value),vs[j]?=some v->w.cell? (ad.add j)=some v) /\
  ∀ (j:Nat) (x:AV) (v:Value),(cs.take n)[j]?=some x->vs[j]?=some v->cB (Rd X φ w) φ x v
 |0,_=>⟨[],rfl,fun j v hv=>by simp at hv,fun j x v hx=>by simp at hx⟩
 |n+1,hn=>by
   obtain⟨vs,hl,h1,h2⟩:=Sn.values h n (by omega);obtain⟨x,hx⟩:=bu (l:=cs) (i:=n) (by omega);obtain⟨u,hu,r⟩:=h n x hx;refine⟨vs++[u],by simp[hl],fun j v hv=>?_,fun j y v hy hv=>?_⟩
   ·by_cases hj:j<vs.length
    ·rw[aB hj] at hv; exact h1 j v hv
    ·have bD:=aC hv;simp at bD;have hje:j=n:=by omega
     subst hje;rw[aR (by omega)] at hv;simp[hl] at hv;subst hv;exact hu
   ·by_cases hj:j<vs.length
    ·rw[aB hj] at hv;rw[bm (by omega)] at hy;exact h2 j y v (by rw[bm (by omega)]; exact hy) hv
    ·have bD:=aC hv;simp at bD;have hje:j=n:=by omega
     subst hje;rw[aR (by omega)] at hv;simp[hl] at hv;subst hv;rw[bm (by omega),hx] at hy;simp at hy;subst hy;exact r

theorem yX {t:TypeId} {i:TypeInfo} (h:P.info? t=some i):(typeInfo t).run P w=.ok i w:=by simp[typeInfo,h]
theorem jA {t:TypeId} {i:TypeInfo} (h:P.info? t=some i):(sizeOf t).run P w=.ok i.size w:=by simp[sizeOf,yX h]
theorem u6 {t:TypeId} {i:TypeInfo} {z:Value} (h:P.info? t=some i) (hz:i.zero=some z):(zeroValue t).run P w=.ok z w:=by simp[zeroValue,yX h,hz]

theorem Mi {t:TypeId} {k:Nat} (h:qe P t=some (some k)):∃i,P.info? t=some i/\i.size=k/\(isAgg t).run P w=.ok true w:=by
 unfold qe at h;split at h
 ·rename_i fs hu;split at h
  ·rename_i i hi;exact⟨i,hi,by simpa using h,by simp[isAgg,run_underlying hu]⟩
  ·cases h
 ·rename_i n e hu;split at h
  ·rename_i i hi;exact⟨i,hi,by simpa using h,by simp[isAgg,run_underlying hu]⟩
  ·cases h
 ·simp at h
 ·cases h
theorem xy {t:TypeId} (h:qe P t=some none):(isAgg t).run P w=.ok false w:=by
 unfold qe at h;split at h
 ·split at h<;>simp at h
 ·split at h<;>simp at h
 ·rename_i d h1 h2 hu;simp only[isAgg,Sem.run_bind,run_underlying hu,Result.andThen_ok];rfl
 ·cases h
theorem Ra {t:TypeId} {ag:Option Nat} (ha:qe P t=some ag) {cs:List AV} {x:AV} (hx:FN ag cs=some x) {ad:Addr} (hp:Sn X φ w cs ad) :
  ∃ v,(loadVar t ad).run P w=.ok v w/\cB (Rd X φ w) φ x v:=by
 cases ag with
 |some k=>
   obtain⟨i,hi,hk,Lu⟩:=Mi (w:=w) ha;simp only[FN] at hx;split at hx
   ·rename_i hle;simp at hx;subst hx;obtain⟨vs,hl,h1,h2⟩:=hp.values k hle;have hlc:=run_loadCells_list (P:=P) w ad vs h1;refine⟨.agg vs.toArray,?_,.agg _ _ _ (by simp[hl]; omega) fun i c v hc hv=>h2 i c v hc (by simpa using hv)⟩;simp only[loadVar,Sem.run_bind,Lu,Result.andThen_ok,if_true,jA hi,hk];rw[<-hl,hlc];simp
   ·cases hx
 |none=>
   have Lu:=xy (P:=P) (w:=w) ha;simp only[FN] at hx;cases cs with
   |nil=>simp at hx
   |cons y r=>
     simp at hx;subst hx;obtain⟨u,hu,r⟩:=hp 0 y rfl;rw[Addr.add_zero'] at hu;refine⟨u,?_,r⟩;simp only[loadVar,Sem.run_bind,Lu,Result.andThen_ok,bz,if_false,run_load,hu]

theorem ZF {t:TypeId} {ag:Option Nat} (ha:qe P t=some ag) {cs:List AV} {vs:Array Value} (hl:cs.length=vs.size)
  (hr:∀(i:Nat) (c:AV) (v:Value),cs[i]?=some c->vs[i]?=some v->cB (Rd X φ w) φ c v) {off:Nat} {x:AV} (hx:FN ag (cs.drop off)=some x) :
  ∃ v,(part t vs off).run P w=.ok v w/\cB (Rd X φ w) φ x v:=by
 cases ag with
 |some k=>
   obtain⟨i,hi,hk,Lu⟩:=Mi (w:=w) ha;simp only[FN] at hx;split at hx
   ·rename_i hle;simp at hx;subst hx;rw[eS] at hle;refine⟨.agg (vs.extract off (off+k)),?_,.agg _ _ _ ?_ fun j c v hc hv=>?_⟩
    ·simp only[part,Sem.run_bind,Lu,Result.andThen_ok,if_true,jA hi,hk,Sem.run_pure]
    ·simp only[bF,eS,Array.size_extract]; omega
    ·have hjk:j<k:=by have:=aC hc; simp only[bF] at this; omega
     rw[bm hjk,br] at hc
     have hv':vs[off+j]?=some v:=by
      rw[Array.getElem?_extract] at hv;split at hv
      ·exact hv
      ·cases hv
     exact hr _ c v hc hv'
   ·cases hx
 |none=>
   have Lu:=xy (P:=P) (w:=w) ha;simp only[FN,List.head?_drop] at hx;have bD:=aC hx;obtain⟨v,hv⟩:=dc (l:=vs) (i:=off) (by omega);exact⟨v,by simp only[part,Sem.run_bind,Lu,Result.andThen_ok,bz,if_false,hv,Sem.run_pure],hr off x v hx hv⟩

theorem jb {k:IntKind} {n:Int} {v:Value} (h:cB (Rd X φ w) φ (.int k n) v):v=.int k n:=by cases h; rfl
theorem pH {b:Bool} {v:Value} (h:cB (Rd X φ w) φ (.bool b) v):v=.bool b:=by cases h; rfl

theorem agc {op:BinOp} {t:TypeId} {k k':IntKind} {x y:Int} {r:AV} (h:kr op (.int k x) (.int k' y)=some r) :
  ∃ v,(binOp op t (.int k x) (.int k' y)).run P w=.ok v w/\∀ R ψ,cB R ψ r v:=by
 cases op<;>simp only[kr,arith] at h
 case shl=>
  split at h
  ·cases h
  ·rename_i hn;simp at h; subst h;exact⟨_,by simp[binOp,Op.shift,hn],fun _ _=>.int _ _ _⟩
 case shr=>
  split at h
  ·cases h
  ·rename_i hn;simp at h; subst h;exact⟨_,by simp[binOp,Op.shift,hn],fun _ _=>.int _ _ _⟩
 all_goals
  split at h
  ·rename_i hk;subst hk
   first
    |(simp at h; subst h; first|exact⟨_,by simp[go_sem],fun _ _=>.int _ _ _⟩|exact⟨_,by simp[go_sem],fun _ _=>.bool _ _⟩)
    | (split at h
       ·cases h
       ·rename_i hn;simp at h; subst h;exact⟨_,by simp[go_sem,hn],fun _ _=>.int _ _ _⟩)
  ·cases h

theorem ahx {l:List Bool} {xs ys:List AV} {e:Bool} (h:Fi (true::l) xs ys=some e) :
  ∃ k a r b s e',xs=.int k a::r/\ys=.int k b::s/\Fi l r s=some e'/\e=(a == b&&e'):=by
 cases xs with
 |nil=>simp[Fi] at h
 |cons x r=>
   cases ys with
   |nil=>cases x<;>simp[Fi] at h
   |cons y s=>
     cases x<;>cases y<;>simp[Fi] at h
     rename_i k a k' b;obtain⟨rfl,h⟩:=h;split at h
     ·rename_i e' he;simp at h;exact⟨k,a,r,b,s,e',rfl,rfl,he,h.symm⟩
     ·cases h
theorem afe {l:List Bool} {xs ys:List AV} {e:Bool} (h:Fi (false::l) xs ys=some e) :
  ∃ a r b s e',xs=.bool a::r/\ys=.bool b::s/\Fi l r s=some e'/\e=(a == b&&e'):=by
 cases xs with
 |nil=>simp[Fi] at h
 |cons x r=>
   cases ys with
   |nil=>cases x<;>simp[Fi] at h
   |cons y s=>
     cases x<;>cases y<;>simp[Fi] at h
     rename_i a b;split at h
     ·rename_i e' he;simp at h;exact⟨a,r,b,s,e',rfl,rfl,he,h.symm⟩
     ·cases h
theorem D6 (d:Nat):∀(fs:List Field) (l:List Bool) (off:Nat) (xs ys:List AV) (vx vy:Array Value) (e:Bool),GC P off fs l=true->Fi l (xs.drop off) (ys.drop off)=some e ->
  xs.length=vx.size->ys.length=vy.size->(∀(i:Nat) (c:AV) (v:Value),xs[i]?=some c->vx[i]?=some v->cB (Rd X φ w) φ c v) ->
  (∀(i:Nat) (c:AV) (v:Value),ys[i]?=some c->vy[i]?=some v->cB (Rd X φ w) φ c v)->(Op.eqFields (d+1) vx vy fs).run P w=.ok e w
 |[],[],off,xs,ys,vx,vy,e,_,he,_,_,_,_=>by
   generalize xs.drop off=a at he;generalize ys.drop off=b at he;cases a<;>cases b<;>simp[Fi] at he
   subst he;rfl
 |[],_::_,_,_,_,_,_,_,h,_,_,_,_,_=>by simp[GC] at h
 |_::_,[],_,_,_,_,_,_,h,_,_,_,_,_=>by simp[GC] at h
 |f::fs,b::l,off,xs,ys,vx,vy,e,h,he,Ik,Ij,hx,hy=>by
   simp only[GC,ae,decide_eq_true_eq] at h;obtain⟨⟨⟨hoff,Pc⟩,Sk⟩,O8⟩:=h;have ih:=fun e he=>D6 d fs l (off+1) xs ys vx vy e O8 he Ik Ij hx hy
   have cell:∀(zs:List AV) (vz:Array Value) (z:AV) (r:List AV),zs.length=vz.size->zs.drop off=z::r->(∃v,vz[off]?=some v)/\zs[off]?=some z/\zs.drop (off+1)=r:=by
    intro zs vz z r hl hd
    have h0:zs[off]?=some z:=by
     have h:=congrArg (·[0]?) hd;simp only[br,List.getElem?_cons_zero,VY] at h;exact h
    refine⟨dc (by have:=aC h0; omega),h0,?_⟩;rw[<-List.tail_drop,hd]; rfl
   split at Sk
   ·rename_i k hu;subst Sk;have Lu:qe P f.type=some none:=by simp[qe,hu]
    have hna:=xy (P:=P) (w:=w) Lu;obtain⟨kx,a,r,b',s,e',hdx,hdy,hee,rfl⟩:=ahx he;obtain⟨⟨vx0,hvx⟩,DU,W5⟩:=cell xs vx _ _ Ik hdx;obtain⟨⟨vy0,hvy⟩,hy0,hy1⟩:=cell ys vy _ _ Ij hdy;obtain rfl:=jb (hx off _ vx0 DU hvx);obtain rfl:=jb (hy off _ vy0 hy0 hvy);have ih':=ih e' (by rw[W5,hy1]; exact hee);simp only[Op.eqFields,Pc,ne_eq,not_false_eq_true,if_true,part,Sem.run_bind,hna,Result.andThen_ok,bz,if_false,hoff,hvx,hvy,Sem.run_pure,run_equalIn_int w d f.type kx k a b' hu];cases hab:(a == b')<;>simp[ih']
   ·rename_i hu;simp only[bR] at Sk;subst Sk;have Lu:qe P f.type=some none:=by simp[qe,hu]
    have hna:=xy (P:=P) (w:=w) Lu;obtain⟨a,r,b',s,e',hdx,hdy,hee,rfl⟩:=afe he;obtain⟨⟨vx0,hvx⟩,DU,W5⟩:=cell xs vx _ _ Ik hdx;obtain⟨⟨vy0,hvy⟩,hy0,hy1⟩:=cell ys vy _ _ Ij hdy;obtain rfl:=pH (hx off _ vx0 DU hvx);obtain rfl:=pH (hy off _ vy0 hy0 hvy);have ih':=ih e' (by rw[W5,hy1]; exact hee);simp only[Op.eqFields,Pc,ne_eq,not_false_eq_true,if_true,part,Sem.run_bind,hna,Result.andThen_ok,bz,if_false,hoff,hvx,hvy,Sem.run_pure,run_equalIn_bool w d f.type a b' hu];cases hab:(a == b')<;>simp[ih']
   ·cases Sk
end
end Go.Am

/- What one operation of the dump does, continued: memory. -/
set_option linter.unusedSimpArgs false
namespace Go.Am
section
variable {P:Program} {c:fe} {X:Nat->Prop} {φ:dQ} {w:World} {env:Env} {H:Heap} {a:Act} {o:Oper}

def Cs (X:Nat->Prop) (φ:dQ) (w:World) (cs:List AV) (vs:List Value):Prop:=cs.length=vs.length/\∀ (i:Nat) (c:AV) (v:Value),cs[i]?=some c->vs[i]?=some v->cB (Rd X φ w) φ c v
theorem Cs.get {cs:List AV} {vs:List Value} (h:Cs X φ w cs vs) {i:Nat} {c:AV} (hc:cs[i]?=some c):∃u,vs[i]?=some u/\cB (Rd X φ w) φ c u:=by
 obtain⟨u,hu⟩:=bu (l:=vs) (i:=i) (h.1▸aC hc);exact⟨u,hu,h.2 i c u hc hu⟩
theorem Cs.append {cs ds:List AV} {vs us:List Value} (h:Cs X φ w cs vs) (k:Cs X φ w ds us):Cs X φ w (cs++ds) (vs++us):=by
 refine⟨by simp[h.1,k.1],fun i c v hc hv=>?_⟩;by_cases hi:i<cs.length
 ·rw[aB hi] at hc;rw[aB (h.1▸hi)] at hv;exact h.2 i c v hc hv
 ·rw[aR (by omega)] at hc;rw[aR (by have:=h.1; omega)] at hv;rw[h.1] at hc;exact k.2 _ c v hc hv
theorem Cs.take {cs:List AV} {vs:List Value} (h:Cs X φ w cs vs) (n:Nat):Cs X φ w (cs.take n) (vs.take n):=by
 refine⟨by simp[h.1],fun i c v hc hv=>?_⟩;have hi:i<n:=by have:=aC hc; simp at this; omega
 rw[bm hi] at hc hv;exact h.2 i c v hc hv
theorem Cs.drop {cs:List AV} {vs:List Value} (h:Cs X φ w cs vs) (n:Nat):Cs X φ w (cs.drop n) (vs.drop n):=by
 refine⟨by simp[h.1],fun i c v hc hv=>?_⟩;rw[br] at hc hv;exact h.2 _ c v hc hv
theorem Cs.kg {cs ds:List AV} {vs us:List Value} (h:Cs X φ w cs vs) (k:Cs X φ w ds us) (off:Nat):Cs X φ w (kg cs off ds) (vs.take off++us++vs.drop (off+us.length)):=by
 unfold Am.kg;rw[<-k.1];exact ((h.take off).append k).append (h.drop _)
theorem cB.cs {x:AV} {v:Value} (h:cB (Rd X φ w) φ x v) (hs:bG x.cells=true):Cs X φ w x.cells v.cells.toList/\∀ u∈v.cells.toList,u.oneCell'=true:=by
 obtain⟨hl,hm⟩:=h.cells hs;refine⟨⟨by simpa using hl,fun i c u hc hu=>?_⟩,fun u hu=>?_⟩
 ·obtain⟨u',h1,h2,_⟩:=hm i c hc;simp at hu;rw[h1] at hu;simp at hu;subst hu;exact h2
 ·obtain⟨i,hi⟩:=bH hu;obtain⟨c,hc⟩:=bu (l:=x.cells) (i:=i) (by have:=aC hi; simp at this; omega);obtain⟨u',h1,_,h3⟩:=hm i c hc;simp at hi;rw[h1] at hi;simp at hi;subst hi;exact h3
theorem Cs.w7 {cs:List AV} {vs:List Value} (h:Cs X φ w cs vs) (hl:bG cs=true):∀u∈vs,u.oneCell'=true:=by
 intro u hu;obtain⟨i,hi⟩:=bH hu;obtain⟨c,hc⟩:=bu (l:=cs) (i:=i) (by have:=aC hi; have:=h.1; omega);exact (h.2 i c u hc hi).w7 (Ay hl i c hc)
theorem uS {t:TypeId} {zs:List AV} (h:qm P t zs=true):∃i z,P.info? t=some i/\i.zero=some z/\Cs X φ w zs z.cells.toList/\bG zs=true:=by
 unfold qm at h;split at h
 ·rename_i i hi;split at h
  ·rename_i z hz;simp only[ae] at h;exact⟨i,z,hi,hz,GJ h.1,h.2⟩
  ·cases h
 ·cases h
theorem jV {t:TypeId} {k:Nat} (h:jK P t k=true):∃e i z,P.underlying t=some (.slice e)/\P.info? e=some i/\i.size=k/\0<k/\i.bytes<=1024/\i.zero=some z/\z.cells.size=k:=by
 unfold jK at h;split at h
 ·rename_i e hu;split at h
  ·rename_i i hi;simp only[ae,decide_eq_true_eq] at h;obtain⟨⟨⟨h1,h2⟩,h3⟩,h4⟩:=h;split at h4
   ·rename_i z hz;exact⟨e,i,z,hu,hi,h1,h2,h3,hz,by simpa using h4⟩
   ·cases h4
  ·cases h
 ·cases h

theorem wa (hh:cK X φ w H) {arr:Array Value} {e:TypeId} {cs:List AV} {w1:World} (hw:w1.heap=w.heap) (ho:w1.os=w.os) (ht:w1.tape=w.tape) (hp:w1.output=w.output)
  (hl:cs.length<=arr.size) (hc:∀(i:Nat) (c:AV),cs[i]?=some c->∃u,arr[i]?=some u/\cB (Rd X φ w) φ c u) (hd:w.drawn<=w1.drawn:=by first|exact aY _|exact Nat.le_succ _) :
  cK X (φ++[some (w.heap.size,arr.size)]) (w1.alloc (.cells arr e)) (H++[some cs])/\fU φ w (φ++[some (w.heap.size,arr.size)]) (w1.alloc (.cells arr e)):=
 hh.alloc (w':=w1.alloc (.cells arr e)) (e:=e) (by simp[World.alloc,hw]) ho ht hp hl hc hd
theorem Cs.at {cs:List AV} {vs:List Value} {arr:Array Value} (h:Cs X φ w cs vs) (hv:∀(i:Nat) (u:Value),vs[i]?=some u->arr[i]?=some u):∀(i:Nat) (c:AV),cs[i]?=some c->∃u,arr[i]?=some u/\cB (Rd X φ w) φ c u:=by
 intro i c hc;obtain⟨u,hu,r⟩:=h.get hc;exact⟨u,hv i u hu,r⟩
theorem ZW {R:Addr->Value->Prop} {n g sz:Nat} (hn:φ.length=n):cB R (φ++[some (g,sz)]) (.ptr n 0) (.pointer (some ⟨g,0,none⟩)):=by
 refine .ptr _ _ _ _ (by simp[hn]) fun g' nF h=>?_;subst hn;simp at h;rw[h.1]
theorem QZ {R:Addr->Value->Prop} {n g sz k len cap:Nat} (hn:φ.length=n) (hc:len<=cap) (hs:cap*k<=sz):cB R (φ++[some (g,sz)]) (.sl k n 0 len) (.slice (some ⟨g,0,none⟩) len cap):=by
 refine .sl _ _ _ _ _ _ _ (by simp[hn]) hc fun g' nF h=>?_;subst hn;simp at h;obtain⟨rfl,rfl⟩:=h;exact⟨fun _=>rfl,by omega⟩
theorem ZV {R:Addr->Value->Prop} {ψ:dQ} {n g sz k len cap:Nat} (hn:ψ.length=n) (hc:len<=cap) (hs:cap*k<=sz):cB R (ψ++[some (g,sz)]) (.sl k n 0 len) (.slice (some ⟨g,0,none⟩) len cap):=QZ hn hc hs

theorem WG {t:TypeId} {zs:List AV} (gh:o.op=.alloc t) (hh:cK X φ w H) (hz:qm P t zs=true):Ok P X φ w o a (.ptr H.length 0) (H++[some zs]):=by
 obtain⟨i,z,hi,hz,eM,_⟩:=uS (X:=X) (φ:=φ) (w:=w) hz;obtain⟨h1,h2⟩:=wa hh (w1:=w) (arr:=z.cells) (e:=t) rfl rfl rfl rfl (by rw[eM.1]; simp) (eM.at (by simp));refine Ok.value ?_ (ZW hh.len) h1 h2;simp[execOp,gh,Instr.alloc,u6 hi hz,newVar,newRow]
theorem ak6 {t:TypeId} {x:Operand} {v:AV} (gh:o.op=.box t x) (hh:cK X φ w H) (r:cB (Rd X φ w) φ v (a.eval x)) (hs:bG v.cells=true) :
  Ok P X φ w o a (.ptr H.length 0) (H++[some v.cells]):=by
 obtain⟨eM,_⟩:=r.cs hs;obtain⟨h1,h2⟩:=wa hh (w1:=w) (arr:=(a.eval x).cells) (e:=t) rfl rfl rfl rfl (by rw[eM.1]; simp) (eM.at (by simp));refine Ok.value ?_ (ZW hh.len) h1 h2;simp[execOp,gh,Instr.box,newVar,newRow]

theorem am3 {t:TypeId} {x:Operand} {y:E} {ag:Option Nat} {v:AV} {H':Heap} {fl:Fp} {call:Nat->List AV->Heap->Option (AV × Heap)} (gh:o.op=.load t x) (hh:cK X φ w H) (r:cB (Rd X φ w) φ (ev c env y) (a.eval x))
  (ha:qe P t=some ag) (hs:gU c call env H (.ld ag y)=some (v,H',fl)):Ok P X φ w o a v H':=by
 have go:∀{cs:List AV} {ad:Addr},a.eval x=.pointer (some ad)->Sn X φ w cs ad->FN ag cs=some v->Ok P X φ w o a v H:=by
  intro cs ad hx hp hv;obtain⟨u,h1,h2⟩:=Ra ha hv hp;exact Ok.quiet (by simp[execOp,gh,hx,Instr.loadAt,Instr.sureAddr,h1]) h2 hh
 simp only[gU] at hs;split at hs
 ·rename_i cs hc;split at hs
  ·rename_i u hu;simp at hs;obtain⟨rfl,rfl,rfl⟩:=hs;rw[hc] at r;obtain⟨ad,h1,h2⟩:=Sn.ZR r;exact go h1 h2 hu
  ·cases hs
 ·rename_i b off hc;split at hs
  ·rename_i cs hb;split at hs
   ·rename_i u hu;simp at hs;obtain⟨rfl,rfl,rfl⟩:=hs;rw[hc] at r;obtain⟨g,sz,arr,e,h1,_,_,_,_,_,_,h2⟩:=Sn.WL hh hb r;exact go h1 h2 hu
   ·cases hs
  ·cases hs
 ·cases hs

theorem ib {cs vs:List AV} {off:Nat} (h:off+vs.length<=cs.length):(kg cs off vs).length=cs.length:=by
 unfold kg;simp only[bV,bF,eS];omega
theorem af8 (l us:List Value) (off n i:Nat) (h:off+us.length<=n) (hn:n<=l.length) (hi:i<n) :
  (l.take off++us++l.drop (off+us.length))[i]?=((l.take n).take off++us++(l.take n).drop (off+us.length))[i]?:=by
 have e1:(l.take off).length=off:=by simp; omega
 have e2:((l.take n).take off).length=off:=by simp; omega
 by_cases h1:i<off
 ·rw[du,du,aB (by omega),aB (by omega),bm h1,bm h1,bm hi]
 ·by_cases h2:i<off+us.length
  ·have f1:i<(l.take off++us).length:=by rw[bV,e1]; omega
   have f2:i<((l.take n).take off++us).length:=by rw[bV,e2]; omega
   rw[aB f1,aB f2,aR (by omega),aR (by omega),e1,e2]
  ·have f1:(l.take off++us).length=off+us.length:=by rw[bV,e1]
   have f2:((l.take n).take off++us).length=off+us.length:=by rw[bV,e2]
   rw[aR (by omega),aR (by omega),f1,f2,br,br,bm (by omega)]
theorem I8 (hh:cK X φ w H) {b off:Nat} {cs:List AV} (hb:aO H b=some cs) {v:Value} (r:cB (Rd X φ w) φ (.ptr b off) v) {ds:List AV} {us:List Value} (eM:Cs X φ w ds us)
  (h1:∀u∈us,u.oneCell'=true) (p7:off+ds.length<=cs.length) :
  ∃ g w',v=.pointer (some ⟨g,off,none⟩)/\(storeCells ⟨g,off,none⟩ us).run P w=.ok () w'/\cK X φ w' (H.set b (some (kg cs off ds)))/\fU φ w φ w':=by
 obtain⟨g,sz,arr,e,rfl,kV,hg,qj,hle,hX,hm,_⟩:=Sn.WL hh hb r;have Ih:=run_storeCells_at P g off e us 0 arr w hg (by rw[<-eM.1]; omega) h1;simp only[VY] at Ih
 have E3:(arr.toList.take off++us++arr.toList.drop (off+us.length)).toArray.size=arr.size:=by
  simp only[uR,bV,bF,eS,sg,<-eM.1]; omega
 have key:∀(i:Nat) (x:AV),(kg cs off ds)[i]?=some x->∃u,(arr.toList.take off++us++arr.toList.drop (off+us.length)).toArray[i]?=some u/\cB (Rd X φ w) φ x u:=by
  intro i x hx
  have Im:Cs X φ w (cs.take cs.length) (arr.toList.take cs.length):=by
   refine⟨by simp; omega,fun i c u hc hu=>?_⟩;have hi:i<cs.length:=by have:=aC hc; simp at this; omega
   rw[bm hi] at hc hu;obtain⟨u',h1,h2⟩:=hm i c hc;simp at hu;rw[h1] at hu;simp at hu;subst hu;exact h2
  rw[List.take_length] at Im;have hov:=Im.kg eM off;obtain⟨u,hu,r⟩:=hov.get hx;refine⟨u,?_,r⟩;have hi:i<cs.length:=by have:=aC hx; rw[ib p7] at this; exact this
  have hul:=eM.1;simp only[AJ];rw[<-hu];exact af8 arr.toList us off cs.length i (by omega) (by simp; omega) hi
 obtain⟨k1,k2⟩:=hh.store (cs':=kg cs off ds) (arr':=(arr.toList.take off++us++arr.toList.drop (off+us.length)).toArray) kV hg qj E3 rfl hX
  (by rw[ib p7,E3]; omega) key
 exact⟨g,_,rfl,Ih,k1,k2⟩
theorem adX {t:TypeId} {x y:Operand} {b off k:Nat} {cs:List AV} {v:AV} (gh:o.op=.store t x y) (hh:cK X φ w H) (hb:aO H b=some cs) (hk:oi P t k=true)
  (rx:cB (Rd X φ w) φ (.ptr b off) (a.eval x)) (ry:cB (Rd X φ w) φ v (a.eval y)) (hl:v.cells.length=k) (p7:off+k<=cs.length) (hs:bG v.cells=true) :
  Ok P X φ w o a .undef (H.set b (some (kg cs off v.cells))):=by
 obtain⟨eM,h1⟩:=ry.cs hs;obtain⟨g,w',hx,Ih,k1,k2⟩:=I8 (P:=P) hh hb rx eM h1 (by omega);refine Ok.skip ?_ k1 k2;unfold oi at hk;split at hk
 ·rename_i i hi;simp at hk;have qj:(a.eval y).cells.size=i.size:=by have:=eM.1; simp at this; omega
  simp[execOp,gh,hx,Instr.storeAt,Instr.sureAddr,storeVar,jA hi,qj,Ih]
 ·cases hk

/-! Composite literals -/
theorem LF (off:Nat):∀(l:List Value) (n:Nat) (arr:Array Value),
  ((l.zipIdx n).foldl (fun cs (p:Value × Nat)=>cs.setIfInBounds (off+p.2) p.1) arr).size=arr.size /\
  (off+n+l.length<=arr.size->((l.zipIdx n).foldl (fun cs (p:Value × Nat)=>cs.setIfInBounds (off+p.2) p.1) arr).toList=arr.toList.take (off+n)++l++arr.toList.drop (off+n+l.length))
 |[],n,arr=>by simp
 |v::r,n,arr=>by
   simp only[List.zipIdx_cons,List.foldl_cons];obtain⟨h1,h2⟩:=LF off r (n+1) (arr.setIfInBounds (off+n) v);refine⟨by rw[h1]; simp,fun p7=>?_⟩;simp only[cN] at p7;rw[h2 (by simp; omega)];apply eT;intro i;simp only[Array.toList_setIfInBounds,cN];by_cases h0:i<off+n
   ·rw[aB (by simp; omega),aB (by simp; omega),aB (by simp; omega),aB (by simp; omega),
     bm (by omega),bm h0,bT (by omega)]
   ·by_cases h3:i=off+n
    ·subst h3
     rw[aB (by simp; omega),aB (by simp; omega),aB (by simp; omega),aR (by simp; omega),
      bm (by omega),List.getElem?_set_self (by simp; omega)]
     have e1:(arr.toList.take (off+n)).length=off+n:=by simp; omega
     rw[e1]; simp
    ·by_cases h4:i<off+n+(r.length+1)
     ·rw[aB (by simp; omega),aR (by simp; omega),aB (by simp; omega),aR (by simp; omega)];have e1:(arr.toList.take (off+n)).length=off+n:=by simp; omega
      have e2:((arr.toList.set (off+n) v).take (off+(n+1))).length=off+n+1:=by simp; omega
      rw[e1,e2,show i-(off+n)=(i-(off+n+1))+1 by omega,nZ]
     ·rw[aR (by simp; omega),aR (by simp; omega),br,br,bT (by simp; omega)];congr 1;simp only[bV,bF,List.length_set,sg,cN];omega
theorem abN (v:Value) (off:Nat) (arr:Array Value) (h:off+v.cells.size<=arr.size) :
  (v.cells.zipIdx.foldl (fun cs (p:Value × Nat)=>cs.setIfInBounds (off+p.2) p.1) arr).toList=arr.toList.take off++v.cells.toList++arr.toList.drop (off+v.cells.toList.length):=by
 have h2:=(LF off v.cells.toList 0 arr).2 (by simpa using h);rw[<-Array.foldl_toList,Array.toList_zipIdx];simpa using h2
theorem ua (he:qf X φ w env a.tmps) (hg:e9 c X φ w) {place:Nat->Option (Nat × Nat)}:∀{ps:List (Nat × Operand)} {qs:List (Nat × Nat × E)} {zs cs:List AV} {arr:Array Value},
  tq place ps qs=true->Cs X φ w zs arr.toList->qa c env zs qs=some cs->∃arr',Instr.fill place arr (ps.map fun p=>(p.1,a.eval p.2))=some arr'/\Cs X φ w cs arr'.toList
 |[],[],zs,cs,arr,_,hz,hf=>by simp[qa] at hf; subst hf; exact⟨arr,rfl,hz⟩
 |[],_::_,_,_,_,h,_,_=>by simp[tq] at h
 |_::_,[],_,_,_,h,_,_=>by simp[tq] at h
 |(i,x)::r,(off,sz,y)::s,zs,cs,arr,h,hz,hf=>by
   simp only[tq,ae,decide_eq_true_eq] at h;obtain⟨⟨hp,hx⟩,O8⟩:=h;simp only[qa] at hf;split at hf
   ·rename_i hc;obtain⟨h1,h2,h3⟩:=hc;obtain⟨eM,_⟩:=(cF he hg hx).cs h3;have qj:(a.eval x).cells.size=sz:=by have:=eM.1; simp at this; omega
    have DS:zs.length=arr.size:=by simpa using hz.1
    have anl:=abN (a.eval x) off arr (by omega)
    have UW:Cs X φ w (kg zs off (ev c env y).cells) ((a.eval x).cells.zipIdx.foldl (fun cs (p:Value × Nat)=>cs.setIfInBounds (off+p.2) p.1) arr).toList:=by
     rw[anl]; exact hz.kg eM off
    obtain⟨arr',e1,e2⟩:=ua he hg O8 UW hf;refine⟨arr',?_,e2⟩;simp only[kA,Instr.fill,hp];rw[if_neg (by simp[qj]; omega)];exact e1
   ·cases hf

theorem run_places (fs:List Field) (h:∀f∈fs,(P.info? f.type).isSome=true) :
  (fs.mapM (m:=Sem) fun f=>do pure (f.offset,<-sizeOf f.type)).run P w=.ok (fs.map fun f=>(f.offset,((P.info? f.type).map (·.size)).getD 0)) w:=by
 induction fs with
 |nil=>rfl
 |cons f r ih=>
   obtain⟨i,hi⟩:=aV.1 (h f (by simp));have ih':=ih fun g hg=>h g (by simp[hg]);simp only[List.mapM_cons,Sem.run_bind,jA hi,Result.andThen_ok,Sem.run_pure,ih',kA,hi,Option.map_some,Option.getD_some]
theorem ad9 {t:TypeId} {ps:Array (Nat × Operand)} {qs:List (Nat × Nat × E)} {zs cs:List AV} (gh:o.op=.build t ps) (hh:cK X φ w H) (he:qf X φ w env a.tmps) (hg:e9 c X φ w)
  (hz:qm P t zs=true) (hu:(match P.underlying t with
  |some (.struct fs)=>(fs.toList.all fun f=>(P.info? f.type).isSome)&&tq (tP P fs) ps.toList qs
  |some (.array _ e)=>match P.info? e with
    |some i=>tq (fun j=>some (j*i.size,i.size)) ps.toList qs
    |none=>false
  |_=>false)=true) (hf:qa c env zs qs=some cs):Ok P X φ w o a (.agg cs) H:=by
 obtain⟨i,z,hi,hz,eM,_⟩:=uS (X:=X) (φ:=φ) (w:=w) hz;split at hu
 ·rename_i fs hut;simp only[ae,List.all_eq_true] at hu;obtain⟨arr',e1,e2⟩:=ua he hg hu.2 eM hf;refine Ok.quiet (v':=.agg arr') ?_ (.agg _ _ _ (by simpa using e2.1) fun i c v hc hv=>e2.2 i c v hc (by simpa using hv)) hh;have pq:=run_places (P:=P) (w:=w) fs.toList hu.1
  have hpl2:(fs.mapM (m:=Sem) fun f=>do pure (f.offset,<-sizeOf f.type)).run P w=.ok (fs.toList.map fun f=>(f.offset,((P.info? f.type).map (·.size)).getD 0)).toArray w:=by
   rw[<-Bq (xs:=fs),List.mapM_toArray];simp only[Sem.run_map,pq,Result.andThen_ok]
  have alG:(fun j=>((fs.toList.map fun f=>(f.offset,((P.info? f.type).map (·.size)).getD 0)).toArray)[j]?)=tP P fs:=by
   funext j;simp only[AJ,ct,kF,tP];cases hfj:fs[j]? with
   |none=>rfl
   |some f=>
     obtain⟨i,hi⟩:=aV.1 (hu.1 f (V7.2 (Array.mem_of_getElem? hfj)));simp[hi]
  simp only[execOp,gh,Instr.build,Sem.run_bind,u6 hi hz,Result.andThen_ok,run_underlying hut,hpl2,alG];have:(H9 (fun x=>(x.1,a.eval x.2)) ps).toList=ps.toList.map fun p=>(p.1,a.eval p.2):=by simp
  simp only[this,e1,Sem.run_pure,Result.andThen_ok]
 ·rename_i n e hut;split at hu
  ·rename_i ie hie;obtain⟨arr',e1,e2⟩:=ua he hg hu eM hf;refine Ok.quiet (v':=.agg arr') ?_ (.agg _ _ _ (by simpa using e2.1) fun i c v hc hv=>e2.2 i c v hc (by simpa using hv)) hh;have:(H9 (fun x=>(x.1,a.eval x.2)) ps).toList=ps.toList.map fun p=>(p.1,a.eval p.2):=by simp
   simp only[execOp,gh,Instr.build,Sem.run_bind,u6 hi hz,Result.andThen_ok,run_underlying hut,jA hie,this,e1,Sem.run_pure]
  ·cases hu
 ·cases hu

theorem Yp (zs:List AV):∀(n i:Nat),i<n*zs.length->(rep zs n)[i]?=zs[i%zs.length]?
 |0,i,h=>by simp at h
 |n+1,i,h=>by
   rw[rep];by_cases hi:i<zs.length
   ·rw[aB hi,Nat.mod_eq_of_lt hi]
   ·rw[aR (by omega),Yp zs n _ (by rw[cT] at h; omega),<-Nat.mod_eq_sub_mod (by omega)]
theorem mX (zs:List AV):∀n,(rep zs n).length=n*zs.length
 |0=>by simp[rep]
 |n+1=>by rw[rep,bV,mX zs n,cT]; omega
theorem acD {zs:List AV} (h:bG zs=true):∀n,bG (rep zs n)=true:=by
 have app:∀{a b:List AV},bG a=true->bG b=true->bG (a++b)=true:=by
  intro a
  induction a with
  |nil=>intro b _ hb; exact hb
  |cons x r ih=>intro b ha hb; simp only[bG,ae,List.cons_append] at *; exact⟨ha.1,ih ha.2 hb⟩
 intro n
 induction n with
 |zero=>rfl
 |succ n ih=>exact app h ih
theorem Wt {zs:List AV} {z:Array Value} (h:Cs X φ w zs z.toList) {n m:Nat} (hm:n*z.size<=m) {arr:Array Value} (hz:arr.size=m) (ha:∀i,i<m->arr[i]?=some (z[i%z.size]!)) :
  ∀ (i:Nat) (c:AV),(rep zs n)[i]?=some c->∃u,arr[i]?=some u/\cB (Rd X φ w) φ c u:=by
 intro i c hc;have DS:zs.length=z.size:=by simpa using h.1
 have hi:i<n*zs.length:=by have:=aC hc; rwa [mX] at this
 rw[Yp zs n i hi] at hc;rw[DS] at hc hi;refine⟨_,ha i (by omega),?_⟩;obtain⟨u,hu,r⟩:=h.get hc;simp at hu;rw[getElem!_def,hu];exact r
theorem abz {t:TypeId} {n k:Nat} {ps:Array (Nat × Operand)} {qs:List (Nat × Nat × E)} {zs cs:List AV} (gh:o.op=.buildSlice t n ps) (hh:cK X φ w H) (he:qf X φ w env a.tmps) (hg:e9 c X φ w)
  (hk:jK P t k=true) (hz:jf P t zs=true) (hn:n*k<=16777216) (hq:tq (fun j=>some (j*k,k)) ps.toList qs=true) (hf:qa c env (rep zs n) qs=some cs) :
  Ok P X φ w o a (.sl k H.length 0 n) (H++[some cs]):=by
 obtain⟨e,i,z,hu,hi,A9,hk0,hby,UT,VQ⟩:=jV hk;simp only[jf,hu] at hz;obtain⟨i',z',Ba,MX,eM,_⟩:=uS (X:=X) (φ:=φ) (w:=w) hz;rw[hi] at Ba;simp at Ba;subst Ba;rw[UT] at MX;simp at MX;subst MX;have DS:zs.length=k:=by have:=eM.1; simp at this; omega
 have Im:Cs X φ w (rep zs n) ((Br (n*k)).map (z.cells[·%z.cells.size]!)).toList:=by
  refine⟨by rw[mX,DS]; simp,fun j c v hc hv=>?_⟩;obtain⟨u,h1,h2⟩:=Wt eM (n:=n) (m:=n*k) (by rw[VQ]; omega) (arr:=(Br (n*k)).map (z.cells[·%z.cells.size]!)) (by simp) (fun i hi=>by simp[hi]) j c hc;rw[kF,h1] at hv;simp at hv;subst hv;exact h2
 obtain⟨arr',e1,e2⟩:=ua he hg hq Im hf
 have qj:arr'.size=n*k:=by
  have fl:∀{ps:List (Nat × Nat × E)} {zs cs:List AV},qa c env zs ps=some cs->cs.length=zs.length:=by
   intro ps
   induction ps with
   |nil=>intro zs cs h; simp[qa] at h; rw[h]
   |cons p r ih=>
     intro zs cs h;obtain⟨o,s,y⟩:=p;simp only[qa] at h;split at h
     ·rename_i hc; rw[ih h,ib (by omega)]
     ·cases h
  have h1:=fl hf;have h2:=e2.1;simp only[sg] at h2;rw[<-h2,h1,mX,DS]
 obtain⟨h1,h2⟩:=wa hh (w1:=w) (arr:=arr') (e:=e) rfl rfl rfl rfl (by rw[e2.1]; simp) (e2.at (by simp));refine Ok.value ?_ (QZ hh.len (aY n) (by omega)) h1 h2;have yO:(H9 (fun x=>(x.1,a.eval x.2)) ps).toList=ps.toList.map fun p=>(p.1,a.eval p.2):=by simp
 have VR : ¬ (n * k > 2 ^ 24) := by have : (2:Nat) ^ 24 = 16777216 := by decide
                                    omega
 have hzero:(if n*i.size=0 then (pure #[]:Sem (Array Value)) else do pure (<- zeroValue e).cells).run P w=.ok (if n*k=0 then #[] else z.cells) w:=by
  rw[A9];split<;>simp[u6 hi UT]
 have alJ:(Br (n*k)).map ((if n*k=0 then #[] else z.cells)[·%(if n*k=0 then #[] else z.cells).size]!)=(Br (n*k)).map (z.cells[·%z.cells.size]!):=by
  by_cases h0:n*k=0
  ·simp[h0]
  ·simp[h0]
 simp only[execOp,gh,Instr.buildSlice,Sem.run_bind,run_underlying hu,Result.andThen_ok,jA hi,A9,Sem.run_ite,VR,if_false];rw[A9] at hzero;simp only[Sem.run_ite,Sem.run_bind,Sem.run_pure,u6 hi UT,Result.andThen_ok] at hzero ⊢;have e1':=e1;rw[<-alJ,<-yO] at e1';split
 ·rename_i h0;simp only[h0,if_true] at e1' ⊢;simp only[Array.range_zero',Array.map_empty] at e1' ⊢;rw[show (Instr.fill (fun i=>some (i*k,k)) #[] (H9 (fun x=>(x.1,a.eval x.2)) ps).toList)=some arr' from e1'];simp[newRow]
 ·rename_i h0;simp only[h0,if_false] at e1' ⊢;rw[show (Instr.fill (fun i=>some (i*k,k)) ((Br (n*k)).map (z.cells[·%z.cells.size]!)) (H9 (fun x=>(x.1,a.eval x.2)) ps).toList)=some arr' from e1'];simp[newRow]
end
end Go.Am

/- What one operation of the dump does: numbers, tests, slices, append. -/
namespace Go.Am
section
variable {P:Program} {c:fe} {X:Nat->Prop} {φ:dQ} {w:World} {env:Env} {H:Heap} {a:Act} {o:Oper}

theorem agI {x y z:Operand} {t:Bool} {u v:AV} (gh:o.op=.pick x y z) (hh:cK X φ w H) (r:cB (Rd X φ w) φ (.bool t) (a.eval x)) (ru:cB (Rd X φ w) φ u (a.eval y)) (rv:cB (Rd X φ w) φ v (a.eval z)) :
  Ok P X φ w o a (if t then u else v) H:=by
 have hx:=pH r;cases t
 ·exact Ok.quiet (v':=a.eval z) (by simp[execOp,gh,hx,asBool]) (by simpa using rv) hh
 ·exact Ok.quiet (v':=a.eval y) (by simp[execOp,gh,hx,asBool]) (by simpa using ru) hh
theorem ak7 {op:BinOp} {t t':TypeId} {x y:Operand} {u v r:AV} (gh:o.op=.binOp op t x y t') (hh:cK X φ w H) (ru:cB (Rd X φ w) φ u (a.eval x)) (rv:cB (Rd X φ w) φ v (a.eval y)) (hr:kr op u v=some r) :
  Ok P X φ w o a r H:=by
 have yN:=hr;unfold kr at yN;split at yN
 ·rename_i k n k' n';have hx:=jb ru;have hy:=jb rv;obtain⟨v',h1,h2⟩:=agc (P:=P) (w:=w) (t:=t) hr;exact Ok.quiet (v':=v') (by simp[execOp,gh,hx,hy,eqGuard_at_int,h1]) (h2 _ _) hh
 ·cases yN

theorem Wr (d:Nat) {t e:TypeId} (h:P.underlying t=some (.slice e)) (x:Option Addr) (n m:Nat):(Op.equalIn (d+1) t (.slice x n m) (.slice none 0 0)).run P w=.ok x.isNone w:=by
 cases x<;>simp[Op.equalIn,run_underlying h]
theorem SJ (d:Nat) {t e:TypeId} (h:P.underlying t=some (.pointer e)) (x:Option Addr):(Op.equalIn (d+1) t (.pointer x) (.pointer none)).run P w=.ok x.isNone w:=by
 cases x<;>simp[Op.equalIn,run_underlying h]
theorem Ws (d:Nat) {t:TypeId} {ps rs:Array TypeId} {vr:Bool} (h:P.underlying t=some (.func ps rs vr)) (f:Fn) (x y:Array Value):(Op.equalIn (d+1) t (.func f x y) .nilFunc).run P w=.ok false w:=by
 simp[Op.equalIn,run_underlying h]
theorem SK (d:Nat) {t:TypeId} {ps rs:Array TypeId} {vr:Bool} (h:P.underlying t=some (.func ps rs vr)):(Op.equalIn (d+1) t .nilFunc .nilFunc).run P w=.ok true w:=by
 simp[Op.equalIn,run_underlying h]
theorem agb {op:BinOp} {ng:Bool} {t:TypeId} {x y:Operand} {u v:Value} {e:Bool} (ho:eqOp op ng=true) (hg:(eqGuard op t x y u v).run P w=.ok () w) (hb:∀op',binOp .eql t u v=(do pure (.bool (<- Op.equal t u v)))/\(op'=BinOp.neq->binOp .neq t u v=(do pure (.bool (!(<- Op.equal t u v))))))
  (h:(Op.equalIn 10000 t u v).run P w=.ok e w):(do eqGuard op t x y u v; binOp op t u v).run P w=.ok (.bool (if ng then !e else e)) w:=by
 have h':(Op.equal t u v).run P w=.ok e w:=by unfold Op.equal Op.maxDepth; exact h
 cases op<;>simp[eqOp] at ho
 ·subst ho;simp only[Sem.run_bind,hg,Result.andThen_ok,(hb .eql).1,h',Sem.run_pure];simp
 ·subst ho;simp only[Sem.run_bind,hg,Result.andThen_ok,(hb .neq).2 rfl,h',Sem.run_pure];simp
theorem ok_eq {op:BinOp} {ng:Bool} {et:Et} {t t':TypeId} {x y:Operand} {u v:AV} {e:Bool} (gh:o.op=.binOp op t x y t') (hh:cK X φ w H) (ho:eqOp op ng=true) (hc:LU P t et=true) (ru:cB (Rd X φ w) φ u (a.eval x)) (rv:cB (Rd X φ w) φ v (a.eval y)) (hr:eqA et u v=some e) :
  Ok P X φ w o a (.bool (if ng then !e else e)) H:=by
 have fin:∀{p q:Value},a.eval x=p->a.eval y=q->(eqGuard op t x y p q).run P w=.ok () w ->
   (∀op',binOp .eql t p q=(do pure (.bool (<- Op.equal t p q)))/\(op'=BinOp.neq->binOp .neq t p q=(do pure (.bool (!(<- Op.equal t p q))))))->(Op.equalIn 10000 t p q).run P w=.ok e w ->
   Ok P X φ w o a (.bool (if ng then !e else e)) H:=by
  intro p q hp hq hg hb h;have:=agb (x:=x) (y:=y) ho hg hb h;refine Ok.quiet ?_ (.bool _ _) hh;simp only[execOp,gh,hp,hq,Sem.run_bind,Sem.run_pure] at this ⊢;rw[this];rfl
 unfold eqA at hr;split at hr
 ·rename_i b b';simp at hr;subst hr;have hx:=pH ru;have hy:=pH rv;simp only[LU] at hc;split at hc
  ·rename_i hu;refine fin hx hy (by rw[eqGuard_at_bool]; rfl) (fun _=>⟨by simp[binOp],fun _=>by simp[binOp]⟩) ?_;exact run_equalIn_bool w 9999 t b b' hu
  ·cases hc
 ·rename_i l xs ys;generalize hx:a.eval x=p at ru;generalize hy:a.eval y=q at rv;cases ru with
  |agg _ _ vx Ik hrx=>
    cases rv with
    |agg _ _ vy Ij hry=>
      simp only[LU] at hc;split at hc
      ·rename_i fs hu;simp only[ae,bR] at hc;obtain⟨⟨hc1,Lr⟩,hc3⟩:=hc;have hfo:P.fieldsOf t=fs:=by simp[Program.fieldsOf,hu]
       refine fin hx hy (run_eqGuard_agg w op t x y vx vy Lr) (fun _=>⟨by simp[binOp],fun _=>by simp[binOp]⟩) ?_;rw[show (10000:Nat)=9999+1 from rfl,run_equalIn_struct w 9999 t vx vy (by rw[hu,hfo]) hc1,hfo];exact D6 9998 fs.toList l 0 xs ys vx vy e hc3 (by simpa using hr) Ik Ij hrx hry
      ·cases hc
 ·generalize hy:a.eval y=q at rv;cases rv;simp only[LU] at hc;split at hc
  ·rename_i el hu
   have sl:∀{ad:Option Addr} {n m:Nat},a.eval x=.slice ad n m->ad.isNone=e->Ok P X φ w o a (.bool (if ng then !e else e)) H:=by
    intro ad n m hx he;subst he;exact fin hx hy (by rw[eqGuard_at_slice]; rfl) (fun _=>⟨by simp[binOp],fun _=>by simp[binOp]⟩) (Wr 9999 hu ad n m)
   generalize hx:a.eval x=p at ru;cases ru<;>simp[isNil] at hr
   case dO=>exact sl hx (by simpa using hr)
   case sl=>exact sl hx (by simpa using hr)
   case oa xs _ _ _ _ _ _ _ _ _=>
    cases xs<;>simp at hr
    exact sl hx (by simpa using hr)
  ·cases hc
 ·generalize hy:a.eval y=q at rv;cases rv;simp only[LU] at hc;split at hc
  ·rename_i el hu
   have pt:∀{ad:Option Addr},a.eval x=.pointer ad->ad.isNone=e->Ok P X φ w o a (.bool (if ng then !e else e)) H:=by
    intro ad hx he;subst he;exact fin hx hy (by rw[eqGuard_at_pointer]; rfl) (fun _=>⟨by cases ad<;>simp[binOp],fun _=>by cases ad<;>simp[binOp]⟩) (SJ 9999 hu ad)
   generalize hx:a.eval x=p at ru;cases ru<;>simp[isNil] at hr
   case gq=>exact pt hx (by simpa using hr)
   case ptr=>exact pt hx (by simpa using hr)
   case dV=>exact pt hx (by simpa using hr)
  ·cases hc
 ·generalize hy:a.eval y=q at rv;cases rv;simp only[LU] at hc;split at hc
  ·rename_i ps rs vr hu;generalize hx:a.eval x=p at ru;cases ru<;>simp[isNil] at hr
   case gz=>subst hr; exact fin hx hy (by rw[eqGuard_at_nilFunc]; rfl) (fun _=>⟨by simp[binOp],fun _=>by simp[binOp]⟩) (SK 9999 hu)
   case func=>subst hr; exact fin hx hy (by rw[eqGuard_at_func]; rfl) (fun _=>⟨by simp[binOp],fun _=>by simp[binOp]⟩) (Ws 9999 hu _ _ _)
  ·cases hc
 ·cases hr
theorem am2 {op:UnOp} {t:TypeId} {x:Operand} {u r:AV} (gh:o.op=.unOp op t x) (hh:cK X φ w H) (ru:cB (Rd X φ w) φ u (a.eval x)) (hr:We op u=some r):Ok P X φ w o a r H:=by
 unfold We at hr;split at hr
 ·have hx:=jb ru;simp at hr; subst hr;exact Ok.quiet (v':=.int _ _) (by simp[execOp,gh,hx,Op.unary,Op.intArith]) (.int _ _ _) hh
 ·have hx:=jb ru;simp at hr; subst hr;exact Ok.quiet (by simp[execOp,gh,hx,Op.unary,intBits_xor]) (.int _ _ _) hh
 ·have hx:=pH ru;simp at hr; subst hr;exact Ok.quiet (by simp[execOp,gh,hx,Op.unary]) (.bool _ _) hh
 ·cases hr
theorem ak4 {s d:TypeId} {x:Operand} {k k':IntKind} {n:Int} (gh:o.op=.convert s d x) (hh:cK X φ w H) (hs:(P.underlying s).isSome=true) (hd:P.underlying d=some (.int k)) (ru:cB (Rd X φ w) φ (.int k' n) (a.eval x)) :
  Ok P X φ w o a (.int k (k.wrap n)) H:=by
 have hx:=jb ru;obtain⟨d',hd'⟩:=aV.mp hs;exact Ok.quiet (by simp[execOp,gh,hx,convert,run_underlying hd',run_underlying hd,Conv.intToInt]) (.int _ _ _) hh
theorem akS {fn:Fn} {as bs:Array Operand} {xs ys:List E} (gh:o.op=.makeFunc fn as bs) (hh:cK X φ w H) (he:qf X φ w env a.tmps) (hg:e9 c X φ w) (ha:jW as.toList xs=true) (hb:jW bs.toList ys=true) :
  Ok P X φ w o a (.func fn (IW c env xs) (IW c env ys)) H:=by
 obtain⟨l1,h1⟩:=oX he hg ha;obtain⟨l2,h2⟩:=oX he hg hb;refine Ok.quiet (v':=.func fn (as.map a.eval) (bs.map a.eval)) (by simp[execOp,gh,Instr.makeFunc]) (.func _ _ _ _ _ _ (by simp[l1]) (by simp[l2]) (fun i c v hc hv=>h1 i c v hc ?_) (fun i c v hc hv=>h2 i c v hc ?_)) hh
 ·simpa using hv
 ·simpa using hv
theorem akR {t:TypeId} {k:Nat} {zs:List AV} {x y:Operand} {k1 k2:IntKind} {l cp:Int} (gh:o.op=.makeSlice t x y) (hh:cK X φ w H) (hk:jK P t k=true) (hz:jf P t zs=true)
  (rx:cB (Rd X φ w) φ (.int k1 l) (a.eval x)) (ry:cB (Rd X φ w) φ (.int k2 cp) (a.eval y)) (h0:0<=l) (h1:l<=cp) (h2:cp<=(jx:Int)) :
  Ok P X φ w o a (.sl k H.length 0 l.toNat) (H++[some (rep zs l.toNat)]):=by
 obtain⟨e,i,z,hu,hi,A9,hk0,hby,UT,VQ⟩:=jV hk;simp only[jf,hu] at hz;obtain⟨i',z',Ba,MX,eM,_⟩:=uS (X:=X) (φ:=φ) (w:=w) hz;rw[hi] at Ba;simp at Ba;subst Ba;rw[UT] at MX;simp at MX;subst MX;have DS:zs.length=k:=by have:=eM.1; simp at this; omega
 have hx:=jb rx;have hy:=jb ry;have hL:(jx:Int)=4294967296:=rfl
 have hb:(i.bytes:Int)*cp<=281474976710656:=by
  have h3:(i.bytes:Int)*cp<=1024*4294967296:=Int.mul_le_mul (by omega) (by omega) (by omega) (by omega);omega
 have mY:=run_make (P:=P) w t e i z hu hi UT k1 k2 l cp h0 h1 hb (by omega);have hlc:l.toNat<=cp.toNat:=by omega
 have hlk:l.toNat * k<=cp.toNat * k:=bS _ hlc;have hms:(madeCells z.cells (cp.toNat * i.size)).size=cp.toNat * k:=by rw[size_madeCells,A9]
 obtain⟨q1,q2⟩:=wa hh (w1:=w) (arr:=madeCells z.cells (cp.toNat * i.size)) (e:=e) (cs:=rep zs l.toNat) rfl rfl rfl rfl (by rw[mX,hms,DS]; exact hlk)
  (Wt eM (m:=cp.toNat * k) (by rw[VQ]; exact hlk) hms (fun j hj=>by rw[A9]; simp[madeCells,hj]))
 refine Ok.value (v':=.slice (some ⟨w.heap.size,0,none⟩) l.toNat cp.toNat) ?_ (QZ hh.len hlc (by rw[hms]; exact aY _)) q1 q2;simp only[execOp,gh,hx,hy,Sem.run_bind,mY,Result.andThen_ok,Sem.run_pure]

theorem afF {x:AV} {hi n:Nat} (h:bnd x hi=some n):∃k i,x=.int k i/\0<=i/\i<=(hi:Int)/\n=i.toNat:=by
 unfold bnd at h;split at h
 ·rename_i k i;split at h
  ·rename_i hc; simp at h; exact⟨k,i,rfl,hc.1,hc.2,h.symm⟩
  ·cases h
 ·cases h
theorem Af {x:AV} {len j:Nat} (h:idx x len=some j):∃k i,x=.int k i/\0<=i/\i<(len:Int)/\j=i.toNat/\j<len:=by
 unfold idx at h;split at h
 ·rename_i k i;split at h
  ·rename_i hc; simp at h; exact⟨k,i,rfl,hc.1,hc.2,h.symm,by omega⟩
  ·cases h
 ·cases h
theorem run_sliceBound {k:IntKind} {i:Int} {y:Nat} {cd:BoundsCode} (h0:0<=i) (h1:i<=(y:Int)):(Instr.sliceBound (.int k i) y cd).run P w=.ok i.toNat w:=by
 simp[Instr.sliceBound,asIntOf,h0,h1]
theorem yY (he:qf X φ w env a.tmps) (hg:e9 c X φ w) {x:Operand} {y:E} {n m cap:Nat} {cd:BoundsCode} (hx:dF x y=true) (hn:n<=cap) (h:bnd (ev c env y) n=some m) :
  (Instr.sliceBound (a.eval x) cap cd).run P w=.ok m w/\m<=n:=by
 obtain⟨k,i,e1,e2,e3,e4⟩:=afF h;have r:=cF (a:=a) he hg hx;rw[e1] at r;rw[jb r,e4];exact⟨run_sliceBound e2 (by omega),by omega⟩
theorem Jp (he:qf X φ w env a.tmps) (hg:e9 c X φ w) {lo hi:Option Operand} {lo' Ba:Option E} {n cap h l:Nat} (hlo:tu lo lo'=true) (hhi:tu hi Ba=true) (hn:n<=cap)
  (hh:Ft c env n n Ba=some h) (hl:Ft c env 0 h lo'=some l):(Instr.sliceBounds true n cap (lo.map a.eval) (hi.map a.eval) none).run P w=.ok (l,h,cap) w/\l<=h/\h<=n:=by
 cases lo<;>cases lo'<;>simp only[tu] at hlo<;>try (cases hlo; done)
 all_goals
  cases hi<;>cases Ba<;>simp only[tu] at hhi<;>try (cases hhi; done)
 all_goals simp only[Ft] at hh hl
 ·simp at hh hl;subst hh; subst hl;exact⟨by simp[Instr.sliceBounds],by omega,aY _⟩
 ·obtain⟨h1,h2⟩:=yY (P:=P) (cd:=.sliceAcap) he hg hhi hn hh;simp at hl;subst hl;exact⟨by simp[Instr.sliceBounds,h1],by omega,h2⟩
 ·simp at hh;subst hh;obtain⟨h1,h2⟩:=yY (P:=P) (cd:=.sliceB) he hg hlo (aY _) hl;exact⟨by simp[Instr.sliceBounds,h1],h2,aY _⟩
 ·obtain⟨h1,h2⟩:=yY (P:=P) (cd:=.sliceAcap) he hg hhi hn hh;obtain⟨h3,h4⟩:=yY (P:=P) (cd:=.sliceB) he hg hlo (aY _) hl;exact⟨by simp[Instr.sliceBounds,h1,h3],h4,h2⟩
theorem af9 {t e:TypeId} {i:TypeInfo} (hu:P.underlying t=some (.slice e)) (hi:P.info? e=some i) {ad:Option Addr} {n cap l h:Nat} {lo Ba:Option Value} (hb:(Instr.sliceBounds true n cap lo Ba none).run P w=.ok (l,h,cap) w) :
  (Instr.sliceAt t (.slice ad n cap) lo Ba none).run P w=.ok (.slice (if cap=l then ad else ad.map (·.add (l*i.size))) (h-l) (cap-l)) w:=by
 simp only[Instr.sliceAt,Instr.slice,Sem.run_bind,run_underlying hu,Result.andThen_ok,hb,jA hi,Sem.run_pure]
theorem akP {t:TypeId} {k:Nat} {x:Operand} {y:E} {lo hi:Option Operand} {lo' Ba:Option E} {v:AV} {H':Heap} {fl:Fp} {call:Nat->List AV->Heap->Option (AV × Heap)} (gh:o.op=.slice t x lo hi none) (hh:cK X φ w H) (he:qf X φ w env a.tmps) (hg:e9 c X φ w)
  (hk:jK P t k=true) (hx:dF x y=true) (hlo:tu lo lo'=true) (hhi:tu hi Ba=true) (hs:gU c call env H (.D5 k y lo' Ba)=some (v,H',fl)):Ok P X φ w o a v H':=by
 obtain⟨e,i,z,hu,Xc,A9,hk0,hby,UT,VQ⟩:=jV hk;have r:=cF (a:=a) he hg hx;simp only[gU] at hs;split at hs
 case h_2=>cases hs
 rename_i n hn;split at hs
 case h_2=>cases hs
 rename_i h hhv;split at hs
 case h_2=>cases hs
 rename_i l hlv
 have fin:∀{ad:Option Addr} {cap:Nat},a.eval x=.slice ad n cap->n<=cap->l<=h->h<=n->(l<=h->h<=n->cB (Rd X φ w) φ v (.slice (if cap=l then ad else ad.map (·.add (l*k))) (h-l) (cap-l)))->H'=H->Ok P X φ w o a v H':=by
  intro ad cap VT hnc _ _ hr hH;obtain⟨h1,h2,h3⟩:=Jp (P:=P) he hg hlo hhi hnc hhv hlv;have:=af9 (P:=P) hu Xc (ad:=ad) h1;rw[A9] at this;subst hH;exact Ok.quiet (by simp only[execOp,gh,VT,It,Sem.run_bind,this,Result.andThen_ok,Sem.run_pure]) (hr h2 h3) hh
 have le:∀cap,n<=cap->l<=h/\h<=n:=fun cap hc=>(Jp (P:=P) he hg hlo hhi hc hhv hlv).2;obtain⟨hlh,hhn⟩:=le n (aY _);generalize hy:ev c env y=yv at hs r hn;cases yv<;>simp only[lenA,ai] at hn<;>try (cases hn; done)
 ·subst hn;simp at hs;obtain⟨rfl,rfl,rfl⟩:=hs;generalize VT:a.eval x=ax at r;cases r;have hh0:h=0:=by omega
  have hl0:l=0:=by omega
  subst hh0; subst hl0;exact fin VT (aY _) (aY _) (aY _) (fun _ _=>by simp; exact .dO _) rfl
 ·rename_i k' xs;simp only at hs;split at hs
  case isFalse=>cases hs
  rename_i wc;subst wc;simp at hs;obtain⟨rfl,rfl,rfl⟩:=hs;generalize VT:a.eval x=ax at r;cases r with
  |oa _ _ _ ad n' cap u VR je hkc hur hr=>
    subst hn;subst VR;refine fin VT je hlh hhn (fun _ _=>?_) rfl;have hlen:((xs.take h).drop l).length=h-l:=by simp; omega
    by_cases M5:cap=l
    ·have h0:(xs.take h).drop l=[]:=dC (by omega);rw[if_pos M5,h0];refine .oa _ _ _ _ _ _ u (by simp; omega) (by omega) (by simp) (fun i j x c hx=>by simp at hx) (fun i j x c hx=>by simp at hx)
    ·rw[if_neg M5]
     have get:∀(i:Nat) (x:AV),((xs.take h).drop l)[i]?=some x->xs[l+i]?=some x:=by
      intro i x hx;rw[br,bN] at hx;split at hx
      ·exact hx
      ·cases hx
     refine .oa _ _ _ _ _ _ (fun i j=>u (l+i) j) hlen.symm (by omega) (fun x hx=>?_) (fun i j x c hx hc=>?_) (fun i j x c hx hc=>hr (l+i) j x c (get i x hx) hc)
     ·obtain⟨i,hi⟩:=bH hx;exact hkc x (List.mem_of_getElem? (get i x hi))
     ·have:=hur (l+i) j x c (get i x hx) hc;rw[Addr.add_add]
      rwa [show l*k'+(i*k'+j)=(l+i)*k'+j by rw[cT]; omega]
  |kJ=>
    simp at hn;subst hn;have hh0:h=0:=by omega
    have hl0:l=0:=by omega
    subst hh0; subst hl0;exact fin VT (aY _) (aY _) (aY _) (fun _ _=>by simp; exact .kJ _ _) rfl
 ·rename_i k' b off len;simp only at hs;split at hs
  case isFalse=>cases hs
  rename_i wc;subst wc;simp at hs;obtain⟨rfl,rfl,rfl⟩:=hs;subst hn;generalize VT:a.eval x=ax at r;cases r with
  |sl _ _ _ _ _ ad cap hb hc hp=>
    refine fin VT hc hlh hhn (fun _ _=>?_) rfl;have e:(if cap=l then (some ad:Option Addr) else Option.map (·.add (l*k')) (some ad))=some (if cap=l then ad else ad.add (l*k')):=by split<;>simp
    rw[e];refine .sl _ _ _ _ _ _ _ hb (by omega) fun g sz hg=>?_;obtain⟨h1,h2⟩:=hp g sz hg;have hmul:l*k'+(cap-l)*k'=cap*k':=by rw[<-cT]; congr 1; omega
    refine⟨fun h0=>?_,by omega⟩;rw[if_neg (by omega),h1 (by omega),Addr.jP]

theorem Pm {cs:List AV} {v:Value} (h:cB (Rd X φ w) φ (.dV cs) v) (n:Nat):∃ad,v=.pointer (some ad)/\cB (Rd X φ w) φ (.dV (cs.drop n)) (.pointer (some (ad.add n))):=by
 cases h with
 |dV _ _ ad u hu h=>
   refine⟨ad,rfl,.dV _ _ _ (fun j=>u (n+j)) (fun j c hc=>?_) (fun j c hc=>?_)⟩
   ·rw[br] at hc;rw[Addr.add_add];exact hu _ _ hc
   ·rw[br] at hc;exact h _ _ hc
theorem Zu {b off:Nat} {v:Value} (h:cB (Rd X φ w) φ (.ptr b off) v) (n:Nat):∃ad,v=.pointer (some ad)/\cB (Rd X φ w) φ (.ptr b (off+n)) (.pointer (some (ad.add n))):=by
 cases h with
 |ptr _ _ _ ad hb h=>
   refine⟨ad,rfl,.ptr _ _ _ _ hb fun g sz hg=>?_⟩;rw[h g sz hg,Addr.jP]

theorem acs (he:qf X φ w env a.tmps) (hg:e9 c X φ w) {hi:Option Operand} {Ba:Option E} {n h:Nat} (hhi:tu hi Ba=true) (hh:Ft c env n n Ba=some h):(Instr.sliceBounds false n n none (hi.map a.eval) none).run P w=.ok (0,h,n) w/\h<=n:=by
 cases hi<;>cases Ba<;>simp only[tu] at hhi<;>try (cases hhi; done)
 all_goals simp only[Ft] at hh
 ·simp at hh;subst hh;exact⟨by simp[Instr.sliceBounds],aY _⟩
 ·obtain⟨h1,h2⟩:=yY (P:=P) (cd:=.sliceAlen) he hg hhi (aY _) hh;exact⟨by simp[Instr.sliceBounds,h1],h2⟩
theorem ak8 {t:TypeId} {n:Nat} {x:Operand} {y:E} {hi:Option Operand} {Ba:Option E} {v:AV} {H':Heap} {fl:Fp} {call:Nat->List AV->Heap->Option (AV × Heap)} (gh:o.op=.slice t x none hi none) (hh:cK X φ w H) (he:qf X φ w env a.tmps) (hg:e9 c X φ w) (hhi:tu hi Ba=true) (r:cB (Rd X φ w) φ (ev c env y) (a.eval x))
  (hk:(match P.underlying t with
  |some (.array n' e)=>decide (n=n')&&oi P e 1
  |_=>false)=true) (hs:gU c call env H (.Nd n y Ba)=some (v,H',fl)):Ok P X φ w o a v H':=by
 split at hk
 case h_2=>cases hk
 rename_i n' e hu;simp only[ae,decide_eq_true_eq] at hk;obtain⟨rfl,qj⟩:=hk;unfold oi at qj;split at qj
 case h_2=>cases qj
 rename_i i Xc;simp only[gU] at hs;split at hs
 case h_2=>cases hs
 rename_i m hm;obtain⟨bd,FE⟩:=acs (P:=P) he hg hhi hm;split at hs
 case h_3=>cases hs
 case h_2=>
  rename_i b off hy;split at hs
  case h_2=>cases hs
  rename_i cs hb;split at hs
  case isFalse=>cases hs
  rename_i hc;simp at hs;obtain⟨rfl,rfl,rfl⟩:=hs;rw[hy] at r;generalize VT:a.eval x=ax at r;cases r with
  |ptr _ _ _ ad hbl hp=>
    have e0:(if n=0 then ad else ad.add (0*i.size))=ad:=by
     split
     ·rfl
     ·simp[Addr.add]
    have run:(execOp a.eval o).run P w=.ok (.value (.slice (some ad) m n)) w:=by
     simp only[execOp,gh,VT,It,Instr.sliceAt,Instr.sureAddr,Sem.run_bind,run_underlying hu,Result.andThen_ok,bd,jA Xc,Sem.run_pure,e0,Nat.sub_zero]
    refine Ok.quiet run ?_ hh;obtain⟨g,sz,arr,e,h1,h2,h3,h4,_⟩:=hh.at hb;refine .sl _ _ _ _ _ _ _ hbl FE fun g' nF hg=>?_;rw[h1] at hg;simp only[ai,aP] at hg;obtain⟨rfl,rfl⟩:=hg;exact⟨fun _=>hp _ _ h1,by omega⟩
 rename_i cs hy;split at hs
 case isFalse=>cases hs
 rename_i hc;obtain⟨hc1,rfl,Lr⟩:=hc;have hc:m<=cs.length/\bG (cs.take m)=true:=⟨hc1,Lr⟩;simp at hs;obtain⟨rfl,rfl,rfl⟩:=hs;rw[hy] at r;generalize VT:a.eval x=ax at r;cases r with
 |dV _ _ ad u RD hr=>
   have e0:(if m=0 then ad else ad.add (0*i.size))=ad:=by
    split
    ·rfl
    ·simp[Addr.add]
   have run:(execOp a.eval o).run P w=.ok (.value (.slice (some ad) m m)) w:=by
    simp only[execOp,gh,VT,It,Instr.sliceAt,Instr.sureAddr,Sem.run_bind,run_underlying hu,Result.andThen_ok,bd,jA Xc,Sem.run_pure,e0,Nat.sub_zero]
   refine Ok.quiet run ?_ hh
   have get:∀{k:Nat} {c:AV},(cs.take m)[k]?=some c->cs[k]?=some c/\c.leaf=true:=by
    intro k c h;refine⟨?_,Ay hc.2 k c h⟩;rw[bN] at h;split at h
    ·exact h
    ·cases h
   have one:∀{c:AV},c.leaf=true->c.cells=[c]:=by
    intro c h;cases c<;>simp[AV.leaf] at h<;>rfl
   refine .oa _ 1 _ ad m m (fun k _=>u k) (by simp; omega) (aY _) (fun c hm=>?_) (fun k j c d h1 h2=>?_) (fun k j c d h1 h2=>?_)
   ·obtain⟨k,hk⟩:=bH hm;rw[one (get hk).2]; rfl
   ·rw[one (get h1).2] at h2;cases j with
    |zero=>simp at h2; subst h2; simpa using RD k c (get h1).1
    |succ j=>simp at h2
   ·rw[one (get h1).2] at h2;cases j with
    |zero=>simp at h2; subst h2; exact hr k c (get h1).1
    |succ j=>simp at h2
theorem ak1 {s:TypeId} {f off:Nat} {x:Operand} {y:E} {v:AV} {H':Heap} {fl:Fp} {call:Nat->List AV->Heap->Option (AV × Heap)} (gh:o.op=.fieldAddr s x f) (hh:cK X φ w H) (r:cB (Rd X φ w) φ (ev c env y) (a.eval x))
  (hk:(match P.underlying s with
  |some (.struct fs)=>match fs[f]? with
    |some fd=>decide (fd.offset=off)&&(match P.info? fd.type with
      |some i=>decide (i.size≠0)
      |none=>false)
    |none=>false
  |_=>false)=true) (hs:gU c call env H (.fk off y)=some (v,H',fl)):Ok P X φ w o a v H':=by
 split at hk
 case h_2=>cases hk
 rename_i fs hu;split at hk
 case h_2=>cases hk
 rename_i fd hf;simp only[ae,decide_eq_true_eq] at hk;obtain⟨hoff,qj⟩:=hk;split at qj
 case h_2=>cases qj
 rename_i i hi;have hsz':¬i.size=0:=by simpa using qj
 have run:∀{ad:Addr},a.eval x=.pointer (some ad)->(execOp a.eval o).run P w=.ok (.value (.pointer (some (ad.add off)))) w:=by
  intro ad hx;simp only[execOp,gh,hx,Instr.fieldAt,Sem.run_bind,run_underlying hu,Result.andThen_ok,hf,Instr.sureAddr,Sem.run_pure,fieldPlace,jA hi,hsz',if_false,hoff]
 simp only[gU] at hs;split at hs
 ·rename_i b off' hy;simp at hs;obtain⟨rfl,rfl,rfl⟩:=hs;rw[hy] at r;obtain⟨ad,h1,h2⟩:=Zu r off;exact Ok.quiet (run h1) h2 hh
 ·rename_i cs hy;simp at hs;obtain⟨rfl,rfl,rfl⟩:=hs;rw[hy] at r;obtain⟨ad,h1,h2⟩:=Pm r off;exact Ok.quiet (run h1) h2 hh
 ·cases hs
theorem ak0 {s:TypeId} {f off:Nat} {ag:Option Nat} {x:Operand} {y:E} {v:AV} {H':Heap} {fl:Fp} {call:Nat->List AV->Heap->Option (AV × Heap)} (gh:o.op=.field s x f) (hh:cK X φ w H) (r:cB (Rd X φ w) φ (ev c env y) (a.eval x))
  (hk:(match P.underlying s with
  |some (.struct fs)=>match fs[f]? with
    |some fd=>decide (fd.offset=off)&&decide (qe P fd.type=some ag)
    |none=>false
  |_=>false)=true) (hs:gU c call env H (.fld off ag y)=some (v,H',fl)):Ok P X φ w o a v H':=by
 split at hk
 case h_2=>cases hk
 rename_i fs hu;split at hk
 case h_2=>cases hk
 rename_i fd hf;simp only[ae,decide_eq_true_eq] at hk;obtain⟨hoff,Lu⟩:=hk;simp only[gU] at hs;split at hs
 case h_2=>cases hs
 rename_i cs hy;split at hs
 case h_2=>cases hs
 rename_i u RD;simp at hs;obtain⟨rfl,rfl,rfl⟩:=hs;rw[hy] at r;generalize hx:a.eval x=ax at r;cases r with
 |agg _ _ vs hl hr=>
   obtain⟨v',h1,h2⟩:=ZF Lu hl hr RD;refine Ok.quiet ?_ h2 hh;simp only[execOp,gh,hx,Instr.field,Sem.run_bind,run_underlying hu,Result.andThen_ok,hf,asAgg,Sem.run_pure,hoff,h1]
theorem Yh {t e:TypeId} {i:TypeInfo} (hu:P.underlying t=some (.slice e)) (hi:P.info? e=some i) {ad:Addr} {n cap:Nat} {k:IntKind} {j:Int} (h0:0<=j) (h1:j<(n:Int)) :
  (Instr.indexAt t (.slice (some ad) n cap) (.int k j)).run P w=.ok (.pointer (some (ad.add (j.toNat * i.size)))) w:=by
 simp[Instr.indexAt,asIntOf,run_underlying hu,h0,h1,jA hi]
theorem aga {t e:TypeId} {i:TypeInfo} {n:Nat} (hu:P.underlying t=some (.array n e)) (hi:P.info? e=some i) {ad:Addr} {k:IntKind} {j:Int} (h0:0<=j) (h1:j<(n:Int)) :
  (Instr.indexAt t (.pointer (some ad)) (.int k j)).run P w=.ok (.pointer (some (ad.add (j.toNat * i.size)))) w:=by
 simp[Instr.indexAt,asIntOf,Instr.sureAddr,run_underlying hu,h0,h1,jA hi]
theorem akY {t:TypeId} {k:Nat} {x xi:Operand} {y yi:E} {v:AV} {H':Heap} {fl:Fp} {call:Nat->List AV->Heap->Option (AV × Heap)} (gh:o.op=.indexAddr t x xi) (hh:cK X φ w H) (r:cB (Rd X φ w) φ (ev c env y) (a.eval x))
  (ri:cB (Rd X φ w) φ (ev c env yi) (a.eval xi)) (hk:jK P t k=true) (hs:gU c call env H (.fm k y yi)=some (v,H',fl)):Ok P X φ w o a v H':=by
 obtain⟨e,i,z,hu,Xc,A9,hk0,hby,UT,VQ⟩:=jV hk;simp only[gU] at hs;split at hs
 ·rename_i k' xs hy;split at hs
  case h_2=>cases hs
  rename_i j hj;obtain⟨kk,ii,e1,e2,e3,e4,e5⟩:=Af hj;split at hs
  case isFalse=>cases hs
  rename_i wc;subst wc;split at hs
  case h_2=>cases hs
  rename_i el hel;simp at hs;obtain⟨rfl,rfl,rfl⟩:=hs;rw[e1] at ri;have hxi:=jb ri;rw[hy] at r;generalize hx:a.eval x=ax at r;cases r with
  |oa _ _ _ ad n cap u hn je hkc hur hr=>
    have mY:=Yh (P:=P) (w:=w) hu Xc (ad:=ad) (n:=n) (cap:=cap) (k:=kk) e2 (by omega);refine Ok.quiet (v':=.pointer (some (ad.add (ii.toNat * i.size)))) (by simp only[execOp,gh,hx,hxi,Sem.run_bind,mY,Result.andThen_ok,Sem.run_pure]) (.dV _ _ _ (fun m=>u j m) (fun m c hc=>?_) (fun m c hc=>hr j m el c hel hc)) hh;rw[Addr.add_add,A9,<-e4];exact hur j m el c hel hc
  |kJ=>simp at hel
 ·rename_i k' b off len hy;split at hs
  case h_2=>cases hs
  rename_i j hj;obtain⟨kk,ii,e1,e2,e3,e4,e5⟩:=Af hj;split at hs
  case isFalse=>cases hs
  rename_i wc;subst wc;simp at hs;obtain⟨rfl,rfl,rfl⟩:=hs;rw[e1] at ri;have hxi:=jb ri;rw[hy] at r;generalize hx:a.eval x=ax at r;cases r with
  |sl _ _ _ _ _ ad cap hb hc hp=>
    have mY:=Yh (P:=P) (w:=w) hu Xc (ad:=ad) (n:=len) (cap:=cap) (k:=kk) e2 (by omega);refine Ok.quiet (v':=.pointer (some (ad.add (ii.toNat * i.size)))) (by simp only[execOp,gh,hx,hxi,Sem.run_bind,mY,Result.andThen_ok,Sem.run_pure]) (.ptr _ _ _ _ hb fun g sz hg=>?_) hh;rw[(hp g sz hg).1 (by omega),Addr.jP,A9,e4]
 ·cases hs
theorem akX {t:TypeId} {n k:Nat} {x xi:Operand} {y yi:E} {v:AV} {H':Heap} {fl:Fp} {call:Nat->List AV->Heap->Option (AV × Heap)} (gh:o.op=.indexAddr t x xi) (hh:cK X φ w H) (r:cB (Rd X φ w) φ (ev c env y) (a.eval x))
  (ri:cB (Rd X φ w) φ (ev c env yi) (a.eval xi)) (hk:(match P.underlying t with
  |some (.array n' e)=>decide (n=n')&&oi P e k
  |_=>false)=true) (hs:gU c call env H (.Ig n k y yi)=some (v,H',fl)):Ok P X φ w o a v H':=by
 split at hk
 case h_2=>cases hk
 rename_i n' e hu;simp only[ae,decide_eq_true_eq] at hk;obtain⟨rfl,qj⟩:=hk;unfold oi at qj;split at qj
 case h_2=>cases qj
 rename_i i hi;have A9:i.size=k:=by simpa using qj
 simp only[gU] at hs;split at hs
 case h_2=>cases hs
 rename_i j hj;obtain⟨kk,ii,e1,e2,e3,e4,e5⟩:=Af hj;rw[e1] at ri;have hxi:=jb ri
 have run:∀{ad:Addr},a.eval x=.pointer (some ad)->(execOp a.eval o).run P w=.ok (.value (.pointer (some (ad.add (j*k))))) w:=by
  intro ad hx;have mY:=aga (P:=P) (w:=w) hu hi (ad:=ad) (k:=kk) e2 e3;simp only[execOp,gh,hx,hxi,Sem.run_bind,mY,Result.andThen_ok,Sem.run_pure,A9,e4]
 split at hs
 ·rename_i b off hy;simp at hs;obtain⟨rfl,rfl,rfl⟩:=hs;rw[hy] at r;obtain⟨ad,h1,h2⟩:=Zu r (j*k);exact Ok.quiet (run h1) h2 hh
 ·rename_i cs hy;simp at hs;obtain⟨rfl,rfl,rfl⟩:=hs;rw[hy] at r;obtain⟨ad,h1,h2⟩:=Pm r (j*k);exact Ok.quiet (run h1) h2 hh
 ·cases hs
theorem am4 {t:TypeId} {n k:Nat} {ag:Option Nat} {x xi:Operand} {y yi:E} {v:AV} {H':Heap} {fl:Fp} {call:Nat->List AV->Heap->Option (AV × Heap)} (gh:o.op=.index t x xi) (hh:cK X φ w H) (r:cB (Rd X φ w) φ (ev c env y) (a.eval x))
  (ri:cB (Rd X φ w) φ (ev c env yi) (a.eval xi)) (hk:(match P.underlying t with
  |some (.array n' e)=>decide (n=n')&&oi P e k&&decide (qe P e=some ag)
  |_=>false)=true) (hs:gU c call env H (.ix n k ag y yi)=some (v,H',fl)):Ok P X φ w o a v H':=by
 split at hk
 case h_2=>cases hk
 rename_i n' e hu;simp only[ae,decide_eq_true_eq] at hk;obtain⟨⟨rfl,qj⟩,Lu⟩:=hk;unfold oi at qj;split at qj
 case h_2=>cases qj
 rename_i i hi;have A9:i.size=k:=by simpa using qj
 simp only[gU] at hs;split at hs
 case h_2=>cases hs
 rename_i j hj;obtain⟨kk,ii,e1,e2,e3,e4,e5⟩:=Af hj;rw[e1] at ri;have hxi:=jb ri;split at hs
 case h_2=>cases hs
 rename_i cs hy;split at hs
 case h_2=>cases hs
 rename_i u RD;simp at hs;obtain⟨rfl,rfl,rfl⟩:=hs;rw[hy] at r;generalize hx:a.eval x=ax at r;cases r with
 |agg _ _ vs hl hr=>
   obtain⟨v',h1,h2⟩:=ZF Lu hl hr RD;refine Ok.quiet ?_ h2 hh;rw[e4] at h1;simp only[execOp,gh,hx,hxi,Instr.index,asIntOf,Sem.run_bind,Sem.run_pure,run_underlying hu,Result.andThen_ok,e2,e3,and_self,if_true,jA hi,A9,h1]
theorem ak2 {x:Operand} {i:Nat} {vs:List AV} {v:AV} (gh:o.op=.extract x i) (hh:cK X φ w H) (r:cB (Rd X φ w) φ (.dJ vs) (a.eval x)) (hv:vs[i]?=some v):Ok P X φ w o a v H:=by
 generalize hx:a.eval x=ax at r;cases r with
 |dJ _ _ us hl hr=>
   obtain⟨u,hu⟩:=dc (l:=us) (i:=i) (by have:=aC hv; omega);exact Ok.quiet (by simp only[execOp,gh,hx,Instr.extract,hu,Sem.run_bind,Sem.run_pure,Result.andThen_ok]) (hr i v u hv hu) hh
theorem adZ {x:Operand} {y:E} {v:AV} {H':Heap} {fl:Fp} {call:Nat->List AV->Heap->Option (AV × Heap)} (gh:o.op=.nilCheck x) (hh:cK X φ w H) (r:cB (Rd X φ w) φ (ev c env y) (a.eval x))
  (hs:gU c call env H (.nK y)=some (v,H',fl)):Ok P X φ w o a v H':=by
 simp only[gU] at hs;split at hs
 ·rename_i b off hy;simp at hs;obtain⟨rfl,rfl,rfl⟩:=hs;rw[hy] at r;generalize hx:a.eval x=ax at r;have r':=r;cases r;exact Ok.quiet (by simp only[execOp,gh,hx,Sem.run_pure]) r' hh
 ·rename_i cs hy;simp at hs;obtain⟨rfl,rfl,rfl⟩:=hs;rw[hy] at r;generalize hx:a.eval x=ax at r;have r':=r;cases r;exact Ok.quiet (by simp only[execOp,gh,hx,Sem.run_pure]) r' hh
 ·rename_i f as bs hy;simp at hs;obtain⟨rfl,rfl,rfl⟩:=hs;rw[hy] at r;generalize hx:a.eval x=ax at r;have r':=r;cases r;exact Ok.quiet (by simp only[execOp,gh,hx,Sem.run_pure]) r' hh
 ·cases hs
theorem akU {ca:Call} {x:Operand} {t:TypeId} {y:E} {v:AV} {H':Heap} {fl:Fp} {call:Nat->List AV->Heap->Option (AV × Heap)} (gh:o.op=.call ca) (HO:ca.callee=.builtin .len) (nN:ca.args=#[x]) (Sk:ca.argTypes=#[t]) (hh:cK X φ w H)
  (r:cB (Rd X φ w) φ (ev c env y) (a.eval x)) (hsl:isSlice P t=true) (hs:gU c call env H (.len y)=some (v,H',fl)):Ok P X φ w o a v H':=by
 unfold isSlice at hsl;split at hsl
 case h_2=>cases hsl
 rename_i e hu
 have run:∀{ad:Option Addr} {n cap:Nat},a.eval x=.slice ad n cap->(execOp a.eval o).run P w=.ok (.value (.int .i64 n)) w:=by
  intro ad n cap hx;simp[execOp,gh,resolve,HO,nN,Sk,invoke,builtin,hx,Builtin.len_,run_underlying hu,goInt]
 simp only[gU] at hs;split at hs
 case h_2=>cases hs
 rename_i n hn;simp at hs;obtain⟨rfl,rfl,rfl⟩:=hs;generalize hy:ev c env y=yv at r hn;generalize hx:a.eval x=ax at r;cases yv<;>simp only[lenA,ai] at hn<;>try (cases hn; done)
 ·subst hn;cases r;exact Ok.quiet (run hx) (.int _ _ _) hh
 ·cases r with
  |oa _ _ _ ad m cap u hm=>
    subst hm; subst hn;exact Ok.quiet (run hx) (.int _ _ _) hh
  |kJ=>simp at hn; subst hn; exact Ok.quiet (run hx) (.int _ _ _) hh
 ·subst hn;cases r;exact Ok.quiet (run hx) (.int _ _ _) hh
theorem SI (mx:Bool):∀(xs:List AV) (vs:List Value) (k:IntKind) (n:Int) (r:AV),zX mx (.int k n) xs=some r->xs.length=vs.length->(∀(i:Nat) (c:AV) (v:Value),xs[i]?=some c->vs[i]?=some v->cB (Rd X φ w) φ c v) ->
  ∃ v,(vs.foldlM (if mx then Builtin.max2 else Builtin.min2) (.int k n)).run P w=.ok v w/\∀ R ψ,cB R ψ r v
 |[],[],k,n,r,h,_,_=>by simp[zX] at h; subst h; exact⟨_,rfl,fun _ _=>.int _ _ _⟩
 |[],_::_,_,_,_,_,hl,_=>by simp at hl
 |_::_,[],_,_,_,_,hl,_=>by simp at hl
 |x::xs,v::vs,k,n,r,h,hl,hr=>by
   cases x<;>simp only[zX] at h<;>try (cases h; done)
   rename_i k' m;obtain rfl:=jb (hr 0 _ v rfl rfl);obtain⟨v',h1,h2⟩:=SI mx xs vs k _ r h (by simpa using hl) (fun i c u hc hu=>hr (i+1) c u (by simpa using hc) (by simpa using hu));refine⟨v',?_,h2⟩;cases mx
   ·simp only[bz,if_false] at h1 ⊢;simp only[List.foldlM_cons,Builtin.min2,Sem.run_bind,Sem.run_pure,Result.andThen_ok];exact h1
   ·simp only[if_true] at h1 ⊢;simp only[List.foldlM_cons,Builtin.max2,Sem.run_bind,Sem.run_pure,Result.andThen_ok];exact h1
theorem ad3 {mx:Bool} {ca:Call} {ys:List E} {v:AV} (gh:o.op=.call ca) (HO:ca.callee=.builtin (if mx then .max else .min)) (hh:cK X φ w H) (he:qf X φ w env a.tmps) (hg:e9 c X φ w)
  (nN:jW ca.args.toList ys=true) (hm:uJ mx (IW c env ys)=some v):Ok P X φ w o a v H:=by
 obtain⟨hl,hr⟩:=oX he hg nN;generalize hxs:IW c env ys=xs at hm hl hr;have Si:(ca.args.map a.eval).toList=ca.args.toList.map a.eval:=by simp
 cases xs with
 |nil=>simp[uJ] at hm
 |cons x xs=>
   cases x<;>simp only[uJ] at hm<;>try (cases hm; done)
   rename_i k n;cases hav:ca.args.toList.map a.eval with
   |nil=>have:=congrArg List.length hav; simp at this hl; rw[this] at hl; simp at hl
   |cons u us=>
     rw[hav] at hr;obtain rfl:=jb (hr 0 _ u rfl rfl);obtain⟨v',h1,h2⟩:=SI (P:=P) mx xs us k n v hm (by have:=congrArg List.length hav; simp at this hl; omega) (fun i c w' hc hw=>hr (i+1) c w' (by simpa using hc) (by simpa using hw));refine Ok.quiet (v':=v') ?_ (h2 _ _) hh;cases mx
     ·simp only[bz,if_false] at h1 HO;simp only[execOp,gh,resolve,HO,invoke,builtin,Builtin.min_,Si,hav,Sem.run_bind,Sem.run_pure,Result.andThen_ok,h1]
     ·simp only[if_true] at h1 HO;simp only[execOp,gh,resolve,HO,invoke,builtin,Builtin.max_,Si,hav,Sem.run_bind,Sem.run_pure,Result.andThen_ok,h1]
theorem akW {t:TypeId} {s:ByteArray} {tab:List Nat} {xi:Operand} {yi:E} {v:AV} {H':Heap} {fl:Fp} {call:Nat->List AV->Heap->Option (AV × Heap)} (gh:o.op=.index t (.const (.string s)) xi) (hh:cK X φ w H)
  (ri:cB (Rd X φ w) φ (ev c env yi) (a.eval xi)) (hu:(match P.underlying t with
  |some .string=>true
  |_=>false)=true) (htab:s.data.toList.map (·.toNat)=tab) (hs:gU c call env H (.ixs tab yi)=some (v,H',fl)):Ok P X φ w o a v H':=by
 split at hu
 case h_2=>cases hu
 rename_i hu0;clear hu;simp only[gU] at hs;split at hs
 case h_2=>cases hs
 rename_i j hj;obtain⟨kk,ii,e1,e2,e3,e4,e5⟩:=Af hj;rw[e1] at ri;have hxi:=jb ri;split at hs
 case h_2=>cases hs
 rename_i u RD;simp at hs;obtain⟨rfl,rfl,rfl⟩:=hs;subst htab
 have bD:j<s.size:=by
  have h1:s.data.size=s.size:=rfl;have h2:=e5;simp at h2;omega
 have hsj:s[j]?=some s[j]:=getElem?_pos s j bD
 have hu2:s[j].toNat=u:=by
  rw[ct] at RD
  have:s.data.toList[j]?=some s[j]:=by
   rw[kF];exact Nj bD
  rw[this] at RD;simpa using RD
 refine Ok.quiet (v':=.int .u8 u) ?_ (.int _ _ _) hh;subst e4;have eM:a.eval (.const (.string s))=.string s:=rfl;simp only[execOp,gh,eM,hxi,Instr.index,asIntOf,Sem.run_bind,Sem.run_pure,run_underlying hu0,Result.andThen_ok,e2,if_true,hsj,hu2]
theorem ak5 {ca:Call} {x:Operand} {t:TypeId} {k:Nat} {zs:List AV} {y:E} {v:AV} {H':Heap} {fl:Fp} {call:Nat->List AV->Heap->Option (AV × Heap)} (gh:o.op=.call ca) (HO:ca.callee=.builtin .clear) (nN:ca.args=#[x]) (Sk:ca.argTypes=#[t]) (hh:cK X φ w H)
  (r:cB (Rd X φ w) φ (ev c env y) (a.eval x)) (hk:jK P t k=true) (hz:jf P t zs=true) (hs:gU c call env H (.Vv k zs y)=some (v,H',fl)):Ok P X φ w o a v H':=by
 obtain⟨e,i,z,hu,hi,A9,hk0,hby,UT,VQ⟩:=jV hk;simp only[jf,hu] at hz;obtain⟨i',z',Ba,MX,eM,A8⟩:=uS (X:=X) (φ:=φ) (w:=w) hz;rw[hi] at Ba;simp at Ba;subst Ba;rw[UT] at MX;simp at MX;subst MX;have DS:zs.length=k:=by have:=eM.1; simp at this; omega
 have run0:∀{ad:Option Addr} {cap:Nat},a.eval x=.slice ad 0 cap->(execOp a.eval o).run P w=.ok (.value (.tuple #[])) w:=by
  intro ad cap hx;cases ad<;>simp[execOp,gh,resolve,HO,nN,Sk,invoke,builtin,hx,Builtin.clear_,run_underlying hu]
 simp only[gU] at hs;split at hs
 ·rename_i hy;simp at hs;obtain⟨rfl,rfl,rfl⟩:=hs;rw[hy] at r;generalize hx:a.eval x=ax at r;cases r;exact Ok.quiet (run0 hx) (.undef _) hh
 ·rename_i k' hy;simp at hs;obtain⟨rfl,rfl,rfl⟩:=hs;rw[hy] at r;generalize hx:a.eval x=ax at r;cases r with
  |oa _ _ _ ad n cap u hn=>simp at hn; subst hn; exact Ok.quiet (run0 hx) (.undef _) hh
  |kJ=>exact Ok.quiet (run0 hx) (.undef _) hh
 ·rename_i k' b off len hy;rw[hy] at r;split at hs
  ·rename_i h0;subst h0;simp at hs;obtain⟨rfl,rfl,rfl⟩:=hs;generalize hx:a.eval x=ax at r;cases r;exact Ok.quiet (run0 hx) (.undef _) hh
  ·rename_i h0;split at hs
   case h_2=>cases hs
   rename_i cs hb;split at hs
   case isFalse=>cases hs
   rename_i hc;obtain⟨rfl,p7⟩:=hc;simp at hs;obtain⟨rfl,rfl,rfl⟩:=hs;generalize hx:a.eval x=ax at r;cases r with
   |sl _ _ _ _ _ ad cap hbl je hp=>
     obtain⟨g,sz,arr,e2,h1,h2,h3,h4,h5,h6⟩:=hh.at hb;obtain rfl:=(hp g sz h1).1 (by omega)
     have rp:cB (Rd X φ w) φ (.ptr b off) (.pointer (some ⟨g,off,none⟩)):=.ptr _ _ _ _ hbl fun g' nF Xd=>by
      rw[h1] at Xd;simp at Xd;rw[Xd.1]
     have hcz:Cs X φ w (rep zs len) (Builtin.zeroCells z.cells len).toList:=by
      refine⟨by rw[mX,DS]; simp[Builtin.zeroCells,VQ],fun j c v hc hv=>?_⟩;obtain⟨u,q1,q2⟩:=Wt eM (n:=len) (m:=len*k') (by rw[VQ]; omega) (arr:=Builtin.zeroCells z.cells len) (by simp[Builtin.zeroCells,VQ]) (fun i hi=>by simp[Builtin.zeroCells,VQ,hi]) j c hc;rw[kF,q1] at hv;simp at hv;subst hv;exact q2
     obtain⟨g',w',e1,Ih,q1,q2⟩:=I8 (P:=P) hh hb rp hcz (hcz.w7 (acD A8 len)) (by rw[mX,DS]; exact p7);simp at e1;subst e1;refine Ok.value (v':=.tuple #[]) ?_ (.undef _) q1 q2;cases len with
     |zero=>exact absurd rfl h0
     |succ m=>simp[execOp,gh,resolve,HO,nN,Sk,invoke,builtin,hx,Builtin.clear_,run_underlying hu,u6 hi UT,Ih]
 ·cases hs
end
end Go.Am

/- append; calls. -/
namespace Go.Am
section
variable {P:Program} {c:fe} {X:Nat->Prop} {φ:dQ} {w:World} {env:Env} {H:Heap} {a:Act} {o:Oper}

theorem fS {k:Nat}:∀{xs:List AV},(∀x∈xs,x.cells.length=k)->(aI xs).length=xs.length*k /\
  ∀ (p:Nat) (c:AV),(aI xs)[p]?=some c->∃i x j,xs[i]?=some x/\x.cells[j]?=some c/\p=i*k+j
 |[],_=>⟨by simp[aI],fun p c h=>by simp[aI] at h⟩
 |x::r,h=>by
   obtain⟨hl,hm⟩:=fS (xs:=r) fun y hy=>h y (by simp[hy]);have hx:=h x (by simp);refine⟨by simp[aI,hl,hx,cT]; omega,fun p c hc=>?_⟩;rw[aI] at hc;by_cases hp:p<x.cells.length
   ·rw[aB hp] at hc;exact⟨0,x,p,rfl,hc,by omega⟩
   ·rw[aR (by omega)] at hc;obtain⟨i,y,j,h1,h2,h3⟩:=hm _ c hc;exact⟨i+1,y,j,by simpa using h1,h2,by rw[cT]; omega⟩
theorem Bz (hh:cK X φ w H) {k m:Nat} {x:AV} {news:List AV} {v:Value} (h:jX H k x=some (news,m)) (r:cB (Rd X φ w) φ x v) :
  ∃ ao cap vs,v=.slice ao m cap/\vs.length=m*k/\Cs X φ w news vs/\(∀ad,ao=some ad->∀(j:Nat) (u:Value),vs[j]?=some u->w.cell? (ad.add j)=some u)/\(ao=none->m=0):=by
 have fin:∀{ad:Addr} {cap:Nat} {cs:List AV},Sn X φ w cs ad->cs.length=m*k->cs=news->v=.slice (some ad) m cap ->
   ∃ ao cap vs,v=.slice ao m cap/\vs.length=m*k/\Cs X φ w news vs/\(∀ad,ao=some ad->∀(j:Nat) (u:Value),vs[j]?=some u->w.cell? (ad.add j)=some u)/\(ao=none->m=0):=by
  intro ad cap cs hp hl hn hv;obtain⟨vs,h1,h2,h3⟩:=hp.values cs.length (aY _);subst hn;refine⟨some ad,cap,vs,hv,by omega,⟨h1.symm,fun i c u hc hu=>h3 i c u (by simpa using hc) hu⟩,fun ad' h=>?_,fun h=>by cases h⟩;cases h;exact h2
 cases x<;>simp only[jX] at h<;>try (cases h; done)
 ·simp at h;obtain⟨rfl,rfl⟩:=h;cases r;exact⟨none,0,[],rfl,by simp,⟨rfl,fun i c u hc=>by simp at hc⟩,(fun ad h=>by cases h),fun _=>rfl⟩
 ·rename_i k' xs;split at h
  ·rename_i hk;subst hk;simp at h;obtain⟨rfl,rfl⟩:=h;cases r with
   |oa _ _ _ ad n cap u hn je hkc hur hr=>
     obtain⟨hl,hm⟩:=fS hkc;subst hn;refine fin (ad:=ad) (cap:=cap) (fun p c hc=>?_) hl rfl rfl;obtain⟨i,y,j,h1,h2,rfl⟩:=hm p c hc;exact⟨u i j,(hur i j y c h1 h2).2.2,(hr i j y c h1 h2).EU φ⟩
   |kJ=>exact⟨none,0,[],rfl,by simp,⟨rfl,fun i c u hc=>by simp[aI] at hc⟩,(fun ad h=>by cases h),fun _=>rfl⟩
  ·cases h
 ·rename_i k' b off len;split at h
  case h_2=>cases h
  rename_i cs eM;split at h
  case isFalse=>cases h
  rename_i hc;obtain⟨rfl,p7⟩:=hc;simp at h;obtain⟨rfl,rfl⟩:=h;cases r with
  |sl _ _ _ _ _ ad cap hb hc hp=>
    obtain⟨g,sz,arr,e,h1,h2,h3,h4,h5,h6⟩:=hh.at eM;by_cases h0:len=0
    ·subst h0;exact⟨some ad,cap,[],rfl,by simp,⟨by simp,fun i c u hc=>by simp at hc⟩,(fun _ _ j u hu=>by simp at hu),(fun h=>by cases h)⟩
    ·obtain rfl:=(hp g sz h1).1 (by omega);refine fin (ad:=⟨g,off,none⟩) (cap:=cap) (cs:=(cs.drop off).take (len*k')) (fun p c hc=>?_) (by simp; omega) rfl rfl;rw[bN] at hc;split at hc
     ·rw[br] at hc;obtain⟨u,hu,r⟩:=h6 _ _ hc;exact⟨u,by rw[Addr.jP,gN h2]; exact hu,r⟩
     ·cases hc

theorem FK {t ty e e2:TypeId} {i:TypeInfo} (ht:P.underlying t=some (.slice e)) (hi:P.info? e=some i)
  {g Wq sCap:Nat} {cur:Array Value} (hg:w.heap[g]?=some (.cells cur e2 (0,0)))
  {a:Addr} {m c:Nat} {news:List Value} (hl:news.length=m*i.size) (ano:∀(j:Nat) (u:Value),news[j]?=some u->w.cell? (a.add j)=some u) (h1:∀u∈news,u.oneCell'=true)
  (aji:Wq+m<=sCap) (p7:Wq*i.size+news.length<=cur.size) :
  (Builtin.append_ #[t,t] ty #[.slice (some ⟨g,0,none⟩) Wq sCap,.slice (some a) m c]).run P w =
   .ok (.slice (some ⟨g,0,none⟩) (Wq+m) sCap) (w.setRow g (cur.toList.take (Wq*i.size)++news++cur.toList.drop (Wq*i.size+news.length)).toArray):=by
 have hf:=run_firstCells_some (P:=P) w i.size m a m c news hl ano;have Ih:=run_storeCells_at P g (Wq*i.size) e2 news 0 cur w hg (by simpa using p7) h1;simp only[VY] at Ih;simp[Builtin.append_,run_underlying ht,sizeOf,typeInfo,hi,Builtin.lenOf,aji,hf,Addr.add_lit,Ih]
theorem qo {t ty e:TypeId} {i:TypeInfo} (hu:P.underlying t=some (.slice e)) (hi:P.info? e=some i) {base ao:Option Addr} {n cap c:Nat} (h:n<=cap) :
  (Builtin.append_ #[t,t] ty #[.slice base n cap,.slice ao 0 c]).run P w=.ok (.slice base n cap) w:=by
 cases base<;>cases ao<;>simp[Builtin.append_,run_underlying hu,sizeOf,yX hi,Builtin.lenOf,h,Builtin.firstCells,loadCells,loadCellsFrom,storeCells]
theorem ak9 {ca:Call} {x y:Operand} {t:TypeId} {k:Nat} {x' y':E} {v:AV} {H':Heap} {fl:Fp} {call:Nat->List AV->Heap->Option (AV × Heap)} (gh:o.op=.call ca) (HO:ca.callee=.builtin .append) (nN:ca.args=#[x,y]) (Sk:ca.argTypes=#[t,t])
  (hh:cK X φ w H) (rx:cB (Rd X φ w) φ (ev c env x') (a.eval x)) (ry:cB (Rd X φ w) φ (ev c env y') (a.eval y)) (hk:jK P t k=true) (hs:gU c call env H (.app k x' y')=some (v,H',fl)):Ok P X φ w o a v H':=by
 obtain⟨e,i,z,hu,hi,A9,hk0,hby,UT,VQ⟩:=jV hk
 have fin:∀{p q v':Value} {w':World} {φ':dQ},a.eval x=p->a.eval y=q->(Builtin.append_ #[t,t] o.type #[p,q]).run P w=.ok v' w'->cB (Rd X φ' w') φ' v v'->cK X φ' w' H'->fU φ w φ' w'->Ok P X φ w o a v H':=by
  intro p q v' w' φ' hp hq hr r h k;refine Ok.value ?_ r h k;simp only[execOp,gh,resolve,HO,nN,Sk,invoke,builtin,List.map_toArray,kA,List.map_nil,hp,hq,Sem.run_bind,Sem.run_pure,Result.andThen_ok,hr]
 simp only[gU] at hs;split at hs
 case h_2=>cases hs
 rename_i news m hsc;obtain⟨ao,XG,vs,hy,hvl,RH,hvc,aaA⟩:=Bz hh hsc ry;have hL:jx=4294967296:=rfl;split at hs
 ·rename_i MY;rw[MY] at rx;generalize hx:a.eval x=ax at rx;cases rx;by_cases hm:m=0
  ·subst hm;simp at hs;obtain⟨rfl,rfl,rfl⟩:=hs;exact fin hx hy (qo hu hi (aY 0)) (.dO _) hh (.refl _ _)
  ·rw[if_neg hm] at hs;split at hs
   case isFalse=>cases hs
   rename_i hc;obtain⟨RF,A8⟩:=hc;simp at hs;obtain⟨rfl,rfl,rfl⟩:=hs;cases ao with
   |none=>exact absurd (aaA rfl) hm
   |some ad=>
     have hmb:m*i.bytes<=4294967296*1024:=Nat.mul_le_mul (by omega) hby;have hr:=run_append_nil (P:=P) w t o.type e i z hu hi UT ad m XG vs (by rw[hvl,A9]) (hvc ad rfl) (by omega) (by omega) (by omega);have hge:=grownCap_ge w m 0 e
     have qj:(vs.toArray++Builtin.zeroCells z.cells (grownCap w m 0 e-m)).size=grownCap w m 0 e*k:=by
      simp only[Array.size_append,uR,size_zeroCells,VQ,hvl,<-cT]; congr 1; omega
     obtain⟨q1,q2⟩:=wa hh (w1:=w.drew) (arr:=vs.toArray++Builtin.zeroCells z.cells (grownCap w m 0 e-m)) (e:=e) (cs:=news) rfl rfl rfl rfl
      (by rw[qj,RH.1,hvl]; exact bS _ hge)
      (RH.at fun j u hj=>by rw[uf (by simpa using aC hj)]; simpa using hj)
     exact fin hx hy hr (QZ hh.len hge (by rw[qj]; exact aY _)) q1 q2
 ·rename_i k' b n MY;split at hs
  case h_2=>cases hs
  rename_i cs eM;split at hs
  case isFalse=>cases hs
  rename_i hc;obtain⟨rfl,hnk,RF,A8⟩:=hc;simp at hs;obtain⟨rfl,rfl,rfl⟩:=hs;rw[MY] at rx;generalize hx:a.eval x=ax at rx;cases rx with
  |sl _ _ _ _ _ ad cap hb je hp=>
    obtain⟨g,sz,arr,e2,kV,hg,qj,hle,hX,hm6⟩:=hh.at eM;obtain⟨U0,aji⟩:=hp g sz kV
    have hold:Cs X φ w (cs.take (n*k')) (arr.toList.take (n*k')):=by
     refine⟨by simp; omega,fun j x u hx hu=>?_⟩;have hj:j<n*k':=by have:=aC hx; simp at this; omega
     rw[bm hj] at hx hu;obtain⟨u',h1,h2⟩:=hm6 j x hx;simp at hu;rw[h1] at hu;simp at hu;subst hu;exact h2
    have km:=hold.append RH;have Lq:(arr.toList.take (n*k')).length=n*k':=by simp; omega
    have hlen:(n:Nat)*k'+m*k'=(n+m)*k':=by rw[cT]
    by_cases hm:m=0
    ·subst hm;have Si:vs=[]:=dC (by omega);subst Si
     obtain⟨q1,q2⟩:=hh.move (cs':=cs.take (n*k')++news) (arr':=arr) (w':=w) kV hg qj rfl (by rw[setRow_self w g arr e2 _ hg]) hX
      (by rw[km.1]; simp; omega) (km.at fun j u hj=>by
       rw[List.append_nil] at hj;have hj':j<n*k':=by have:=aC hj; omega
       rw[bm hj'] at hj;simpa using hj)
     refine fin hx hy (qo hu hi je) ?_ q1 q2;refine .sl _ _ _ _ _ _ _ (by simp[hh.len]) je fun g' nF Xd=>?_;rw[aR (by simp[hh.len])] at Xd;simp[hh.len] at Xd;obtain⟨rfl,rfl⟩:=Xd;exact⟨U0,by omega⟩
    ·cases ao with
     |none=>exact absurd (aaA rfl) hm
     |some ady=>
       have h1c:=RH.w7 A8;by_cases W8:n+m<=cap
       ·obtain rfl:=U0 (by omega)
        have p7:n*i.size+vs.length<=arr.size:=by
         rw[A9,hvl,hlen];have:=bS k' W8;omega
        have hr:=FK (P:=P) (ty:=o.type) (c:=XG) hu hi hg (by rw[hvl,A9]) (hvc ady rfl) h1c W8 p7;rw[A9] at hr p7
        have E3:(arr.toList.take (n*k')++vs++arr.toList.drop (n*k'+vs.length)).toArray.size=arr.size:=by
         simp only[uR,bV,bF,eS,sg]; omega
        obtain⟨q1,q2⟩:=hh.move (cs':=cs.take (n*k')++news) (arr':=(arr.toList.take (n*k')++vs++arr.toList.drop (n*k'+vs.length)).toArray) kV hg qj E3 rfl hX
         (by rw[km.1,E3]; simp; omega) (km.at fun j u hj=>by
          simp only[AJ];rw[aB (aC hj)];exact hj)
        refine fin hx hy hr (ZV (by simp[hh.len]) W8 (by omega)) q1 q2
       ·have holds:∀(j:Nat) (u:Value),(arr.toList.take (n*k'))[j]?=some u->w.cell? (ad.add j)=some u:=by
         intro j u hj;have hj':j<n*k':=by have:=aC hj; omega
         have hn0:0<n:=by
          rcases Nat.eq_zero_or_pos n with h|h
          ·subst h; simp at hj'
          ·exact h
         obtain rfl:=U0 (by omega);rw[Addr.jP,gN hg];rw[bm hj'] at hj;simpa using hj
        have hmb:(n+m)*i.bytes<=4294967296*1024:=Nat.mul_le_mul (by omega) hby
        have hr:=run_append_grow (P:=P) w t o.type e i z hu hi UT ad n cap (arr.toList.take (n*k')) (by rw[Lq,A9]) holds ady m XG vs (by rw[hvl,A9]) (hvc ady rfl) (by omega) (by omega)
         (growslice_fits (by omega) (by omega))
        have hge:=grownCap_ge w (n+m) cap e
        have hsz2:((arr.toList.take (n*k')).toArray++vs.toArray++Builtin.zeroCells z.cells (grownCap w (n+m) cap e-(n+m))).size=grownCap w (n+m) cap e*k':=by
         simp only[Array.size_append,uR,size_zeroCells,VQ,hvl,Lq,<-cT]; congr 1; omega
        obtain⟨k1,k2⟩:=hh.UB b;have Pf:Cs X (φ.set b none) w (cs.take (n*k')++news) (arr.toList.take (n*k')++vs):=⟨km.1,fun j x u hx hu=>k2.rep (km.2 j x u hx hu)⟩
        obtain⟨q1,q2⟩:=wa k1 (w1:=w.drew) (arr:=(arr.toList.take (n*k')).toArray++vs.toArray++Builtin.zeroCells z.cells (grownCap w (n+m) cap e-(n+m))) (e:=e) (cs:=cs.take (n*k')++news) rfl rfl rfl rfl
         (by rw[hsz2,km.1,bV,Lq,hvl,hlen]; exact bS _ hge)
         (Pf.at fun j u hj=>by
          rw[uf (by simpa using aC hj)];have:((arr.toList.take (n*k')).toArray++vs.toArray)=(arr.toList.take (n*k')++vs).toArray:=by simp
          rw[this];simpa using hj)
        refine fin hx hy hr ?_ q1 (k2.trans q2);exact ZV (by simp[hh.len]) hge (by rw[hsz2]; exact aY _)
 ·cases hs

theorem agM {ca:Call} {x y:Operand} {t t':TypeId} {k:Nat} {x' y':E} {v:AV} {H':Heap} {fl:Fp} {call:Nat->List AV->Heap->Option (AV × Heap)} (gh:o.op=.call ca) (HO:ca.callee=.builtin .copy) (nN:ca.args=#[x,y]) (Sk:ca.argTypes=#[t,t'])
  (hh:cK X φ w H) (rx:cB (Rd X φ w) φ (ev c env x') (a.eval x)) (ry:cB (Rd X φ w) φ (ev c env y') (a.eval y)) (hk:jK P t k=true) (hs:gU c call env H (.copy k x' y')=some (v,H',fl)):Ok P X φ w o a v H':=by
 obtain⟨e,i,z,hu,hi,A9,hk0,hby,UT,VQ⟩:=jV hk
 have fin:∀{p q v':Value} {w':World} {φ':dQ},a.eval x=p->a.eval y=q->(Builtin.copy_ #[t,t'] o.type #[p,q]).run P w=.ok v' w'->cB (Rd X φ' w') φ' v v'->cK X φ' w' H'->fU φ w φ' w'->Ok P X φ w o a v H':=by
  intro p q v' w' φ' hp hq hr r h k;refine Ok.value ?_ r h k;simp only[execOp,gh,resolve,HO,nN,Sk,invoke,builtin,List.map_toArray,kA,List.map_nil,hp,hq,Sem.run_bind,Sem.run_pure,Result.andThen_ok,hr]
 simp only[gU] at hs;split at hs
 case h_2=>cases hs
 rename_i news m hsc;obtain⟨ao,XG,vs,hy,hvl,RH,hvc,aaA⟩:=Bz hh hsc ry
 have zero:∀{base:Option Addr} {n cap:Nat},Nat.min m n=0->(Builtin.copy_ #[t,t'] o.type #[.slice base n cap,.slice ao m XG]).run P w=.ok (.int .i64 0) w:=by
  intro base n cap h0;cases base<;>cases ao<;>simp[Builtin.copy_,run_underlying hu,Builtin.lenOf,sizeOf,yX hi,h0,Builtin.firstCells,loadCells,loadCellsFrom,storeCells,goInt]
 split at hs
 ·rename_i MY;rw[MY] at rx;generalize hx:a.eval x=ax at rx;cases rx;simp at hs;obtain⟨rfl,rfl,rfl⟩:=hs;exact fin hx hy (zero (Nat.min_zero m)) (.int _ _ _) hh (.refl _ _)
 ·rename_i k' b off n MY;split at hs
  case h_2=>cases hs
  rename_i cs eM;split at hs
  case isFalse=>cases hs
  rename_i hc;obtain⟨rfl,p7,A8⟩:=hc;simp only[ai,aP] at hs;obtain⟨rfl,rfl,rfl⟩:=hs;rw[MY] at rx;generalize hx:a.eval x=ax at rx;cases rx with
  |sl _ _ _ _ _ ad cap hb je hp=>
    obtain⟨g,sz,arr,e2,kV,hg,qj,hle,hX,hm6⟩:=hh.at eM;by_cases h0:min m n=0
    ·have e0:H.set b (some (kg cs off (news.take (min m n*k'))))=H:=by
      have e1:kg cs off (news.take (min m n*k'))=cs:=by rw[h0]; simp[kg]
      rw[e1]
      have iK:H[b]?=some (some cs):=by
       unfold aO at eM;split at eM
       ·rename_i q hq;cases eM;exact hq
       ·cases eM
      apply eT;intro j;rw[bg];split
      ·rename_i ej;subst ej;rw[iK];simp[aC iK]
      ·rfl
     have h0':Nat.min m n=0:=h0;exact fin hx hy (zero h0') (by rw[h0]; exact .int _ _ _) (by rw[e0]; exact hh) (.refl _ _)
    ·obtain rfl:=(hp g sz kV).1 (by omega);cases ao with
     |none=>exact absurd (aaA rfl) (by omega)
     |some ady=>
       have rp:cB (Rd X φ w) φ (.ptr b off) (.pointer (some ⟨g,off,none⟩)):=.ptr _ _ _ _ hb fun g' nF Xd=>by
        rw[kV] at Xd;simp at Xd;rw[Xd.1]
       have hle2:min m n*k'<=m*k':=bS _ (Nat.min_le_left _ _);have hle3:min m n*k'<=n*k':=bS _ (Nat.min_le_right _ _)
       have hcz:Cs X φ w (news.take (min m n*k')) (vs.take (min m n*k')):=by
        refine⟨by simp[RH.1],fun j d u hd hu=>?_⟩;have hj:j<min m n*k':=by have:=aC hd; rw[bF] at this; omega
        rw[bm hj] at hd hu;exact RH.2 j d u hd hu
       have hnl:news.length=m*k':=by rw[RH.1,hvl]
       obtain⟨g',w',e1,Ih,q1,q2⟩:=I8 (P:=P) hh eM rp hcz (fun u hu=>RH.w7 A8 u (List.mem_of_mem_take hu)) (by rw[bF]; omega);simp at e1;subst e1
       have hf:=run_firstCells_some (P:=P) w i.size (min m n) ady m XG (vs.take (min m n*k')) (by rw[bF,hvl,A9]; omega) (fun j u hj=>by
        have hj':j<min m n*k':=by have:=aC hj; rw[bF] at this; omega
        rw[bm hj'] at hj;exact hvc ady rfl j u hj)
       have hmin:Nat.min m n=min m n:=rfl;refine fin hx hy (v':=.int .i64 ((min m n:Nat):Int)) (w':=w') ?_ (.int _ _ _) q1 q2;have Xf:(Builtin.firstCells i.size (Nat.min m n) (.slice (some ady) m XG)).run P w=.ok (vs.take (min m n*k')).toArray w:=hf;simp[Builtin.copy_,run_underlying hu,Builtin.lenOf,sizeOf,yX hi,Xf,Ih,goInt]
       try rfl
 ·cases hs

/-! Calls -/
def Ret (X:Nat->Prop) (φ:dQ) (w:World) (r:AV) (H':Heap) (e:Ending) (w':World):Prop:=
 ∃ v' φ',e=.returned v'/\cB (Rd X φ' w') φ' r v'/\cK X φ' w' H'/\fU φ w φ' w'
def GM (P:Program) (c:fe) (call:Nat->List AV->Heap->Option (AV × Heap)):Prop:=
 ∀ f m q,c.fn f=some (m,q)->∀args H r H',call f args H=some (r,H')->∀X φ w vargs,tC X φ w args vargs->cK X φ w H->e9 c X φ w->Calls P f vargs w (Ret X φ w r H')

theorem cK.gQ (h:cK X φ w H) {g:Nat} (ho:bQ φ g):g<w.heap.size/\¬ X g:=by
 obtain⟨b,sz,hb⟩:=ho;obtain⟨x,hx⟩:=bu (l:=H) (i:=b) (h.len▸aC hb);cases x with
 |none=>rw[h.dead b hx] at hb; simp at hb
 |some cs=>
   obtain⟨g',nF,arr,e,h1,h2,_,_,h5,_⟩:=h.live b cs hx;rw[h1] at hb;simp at hb;rw[<-hb.1];exact⟨(dS.1 h2).1,h5⟩
theorem cK.empty (h:cK X φ w H):cK (fun g=>X g\/bQ φ g) [] w []:=
 ⟨rfl,fun g hg=>hg.elim (h.FC g) (fun ho=>(h.gQ ho).1),fun b cs hb=>by simp at hb,fun b hb=>by simp at hb,fun b b' g sz nF h1=>by simp at h1⟩
theorem T6 (hh:cK X φ w H) {R:Addr->Value->Prop} (hR:∀a u,Rd X φ w a u->R a u) {xs ys:List AV} {bs:List Nat} {n:Nat} {vs:Array Value} (hm:Gb (GB H n) xs=some (ys,bs))
  (hb:∀b∈bs,∀g sz:Nat,φ[b]?=some (some (g,sz))->∀o u,w.cell? ⟨g,o,none⟩=some u->R ⟨g,o,none⟩ u) (ha:tC X φ w xs vs) :
  ys.length=vs.size/\∀ (i:Nat) (c:AV) (v:Value),ys[i]?=some c->vs[i]?=some v->cB R [] c v:=by
 obtain⟨hl,Xa⟩:=vL hm;refine⟨by rw[hl,ha.1],fun i c v hc hv=>?_⟩;obtain⟨x,hx⟩:=bu (l:=xs) (i:=i) (by have:=aC hc; omega);obtain⟨y,b,e1,e2,e3⟩:=Xa i x hx;rw[e2] at hc;simp at hc;subst hc;exact IU hh hR n x _ v b e1 (fun b' iK=>hb b' (e3 b' iK)) (ha.2 i x v hx hv)

theorem FU {call:Nat->List AV->Heap->Option (AV × Heap)} (eQ:GM P c call) {f:Nat} {m:Md} {q:fK} (hf:c.fn f=some (m,q)) {args:List AV} {r r':AV} {H1:Heap} {bs:List Nat} (hr:call f args []=some (r,H1)) (hz:GB H1 XQ r=some (r',bs))
  (hh:cK X φ w H) (hg:e9 c X φ w) {vargs:Array Value} (ha:args.length=vargs.size/\∀ (i:Nat) (c:AV) (v:Value),args[i]?=some c->vargs[i]?=some v->cB (Rd X φ w) [] c v) :
  Calls P f vargs w (Ret X φ w r' H):=by
 have rY:∀{w':World} a u,Rd X φ w' a u->Rd (fun g=>X g\/bQ φ g) [] w' a u:=fun a u ⟨h1,h2,h3⟩=>⟨fun h=>h.elim h1 h2,bQ.nil _,h3⟩;have anx:∀{w':World} a u,Rd (fun g=>X g\/bQ φ g) [] w' a u->Rd X φ w' a u:=fun a u ⟨h1,_,h3⟩=>⟨fun h=>h1 (.inl h),fun h=>h1 (.inr h),h3⟩;refine (eQ f m q hf args [] r H1 hr (fun g=>X g\/bQ φ g) [] w vargs ⟨ha.1,fun i x v hx hv=>(ha.2 i x v hx hv).mono rY (.refl _)⟩ hh.empty (fun g=>(hg g).mono rY (.refl _))).mono ?_;rintro e w1 ⟨v',kX,rfl,r1,h1,a1⟩;refine⟨v',φ,rfl,?_,hh.of_same a1,.of_same a1⟩
 have E5:=IU h1 (R:=Rd (fun g=>X g\/bQ φ g) [] w1) (fun a u ⟨p1,p2,p3⟩=>⟨p1,bQ.nil _,p3⟩) XQ r r' v' bs hz
  (fun b _ g sz hb o u hu=>⟨(h1.gQ ⟨b,sz,hb⟩).2,bQ.nil _,hu⟩) r1
 exact (E5.mono anx (.refl _)).EU φ
theorem Pu {call:Nat->List AV->Heap->Option (AV × Heap)} (eQ:GM P c call) {f:Nat} {args:List AV} {r:AV} {H':Heap} {fl:Fp} (hs:Ap c call f args H=some (r,H',fl))
  (hh:cK X φ w H) (hg:e9 c X φ w) {vargs:Array Value} (ha:tC X φ w args vargs):(∃m q,c.fn f=some (m,q))/\Calls P f vargs w (Ret X φ w r H'):=by
 unfold Ap at hs;split at hs
 ·cases hs
 ·rename_i q hf;refine⟨⟨_,_,hf⟩,?_⟩;split at hs
  case h_2=>cases hs
  rename_i r1 H1 hr;simp at hs;obtain⟨rfl,rfl,rfl⟩:=hs;exact eQ f _ q hf args H r1 H1 hr X φ w vargs ha hh hg
 ·rename_i q hf;refine⟨⟨_,_,hf⟩,?_⟩;split at hs
  case h_2=>cases hs
  rename_i r1 H1 hr;split at hs
  case h_2=>cases hs
  rename_i r' bs hz;split at hs
  case isFalse=>cases hs
  rename_i hc;obtain⟨hle,hge,dG⟩:=hc;simp at hs;obtain⟨rfl,rfl,rfl⟩:=hs;refine (eQ f _ q hf args H r1 H1 hr X φ w vargs ha hh hg).mono ?_;rintro e w1 ⟨v',kX,rfl,r1,h1,a1⟩;have hlen:=hh.len;refine⟨v',kX.take φ.length,rfl,?_,by rw[hlen]; exact h1.take hle dG,a1.take⟩
  have hmem:∀{n:Nat} {l:List Nat},aa9 n l=true->∀b∈l,n<=b:=by
   intro n l
   induction l with
   |nil=>intro _ b hb; simp at hb
   |cons x r ih=>
     intro h b hb;simp only[aa9,ae,decide_eq_true_eq] at h;rcases aK.1 hb with h'|h'
     ·subst h'; exact h.1
     ·exact ih h.2 b h'
  have E5:=IU h1 (R:=Rd X (kX.take φ.length) w1) Yr XQ _ _ v' bs hz (fun b hb g sz kV o u hu=>?_) r1
  ·exact E5.EU _
  ·refine⟨(h1.gQ ⟨b,sz,kV⟩).2,fun⟨b',nF,iK⟩=>?_,hu⟩;rw[bN] at iK;split at iK
   ·rename_i bD;have:=h1.inj b b' g sz nF kV iK;have:=hmem hge b hb;omega
   ·cases iK
 ·rename_i q hf;refine⟨⟨_,_,hf⟩,?_⟩;split at hs
  ·rename_i pq;split at hs
   case h_2=>cases hs
   rename_i r1 H1 hr;split at hs
   case h_2=>cases hs
   rename_i r' bs hz;simp at hs;obtain⟨rfl,rfl,rfl⟩:=hs;exact FU eQ hf hr hz hh hg ⟨ha.1,fun i x v hx hv=>(ha.2 i x v hx hv).dY (s6 pq i x hx) []⟩
  ·split at hs
   case h_2=>cases hs
   rename_i ud bs hm;split at hs
   case h_2=>cases hs
   rename_i r1 H1 hr;split at hs
   case h_2=>cases hs
   rename_i r' bs' hz;split at hs
   ·rename_i anr;simp at hs;obtain⟨rfl,rfl,rfl⟩:=hs;have hh0:cK X [] w []:=⟨rfl,hh.FC,fun b cs hb=>by simp at hb,fun b hb=>by simp at hb,fun b b' g sz nF h1=>by simp at h1⟩;have rY:∀{w':World} a u,Rd X φ w' a u->Rd X [] w' a u:=fun a u ⟨h1,_,h3⟩=>⟨h1,bQ.nil _,h3⟩;have IQ:=T6 hh (R:=Rd X [] w) rY hm (fun b _ g sz hb o u hu=>⟨(hh.gQ ⟨b,sz,hb⟩).2,bQ.nil _,hu⟩) ha;have hc:=FU (X:=X) (φ:=[]) (H:=[]) eQ hf hr hz hh0 (fun g=>(hg g).mono rY (.refl _)) IQ;refine hc.mono ?_;rintro e w1 ⟨v',kX,rfl,r1,h1,a1⟩;exact⟨v',φ,rfl,r1.of_flat anr _ _,hh.of_same a1,.of_same a1⟩
   ·simp at hs;obtain⟨rfl,rfl,rfl⟩:=hs;obtain⟨k1,k2⟩:=cK.kill bs hh
    have IQ:=T6 hh (R:=Rd X (UA φ bs) w) k2.rd hm (fun b hb g sz kV o u hu=>⟨(hh.gQ ⟨b,sz,kV⟩).2,fun⟨b',nF,iK⟩=>by
     obtain⟨e1,e2⟩:=O4 bs φ b' _ iK;exact e2 (hh.inj b b' g sz nF kV e1▸hb),hu⟩) ha
    have hc:=FU eQ hf hr hz k1 (hg.m6 k2) IQ;refine hc.mono ?_;rintro e w1 ⟨v',kX,rfl,r1,h1,a1⟩;exact⟨v',kX,rfl,r1,h1,k2.trans a1⟩

theorem D7 (dG:VK P c) {f:Nat} {m:Md} {q:fK} (hf:c.fn f=some (m,q)) (vargs:Array Value):(callFunc f vargs).run P w=.ok (.enter f vargs) w:=by
 obtain⟨fn,h1,h2⟩:=dG.fn f m q hf;simp only[chkF,ae,bR] at h2;obtain⟨⟨⟨_,Pc⟩,_⟩,vR⟩:=h2
 have hb:fn.body.isNone=false:=by
  cases hfb:fn.body with
  |none=>rw[hfb] at vR; cases vR
  |some b=>rfl
 simp only[callFunc,Sem.run_bind,run_program,Result.andThen_ok,h1,Pc,hb,bz,if_false,Sem.run_pure]
theorem Ok.call {f:Nat} {vargs:Array Value} {r:AV} {H':Heap} (hr:(execOp a.eval o).run P w=.ok (.enter f vargs) w) (hc:Calls P f vargs w (Ret X φ w r H')):Ok P X φ w o a r H':=by
 intro K Q hK;unfold Oper.wp;rw[hr,Oper.upon_enter];refine hc.mono ?_;rintro e w' ⟨v',φ',rfl,r1,h1,a1⟩;exact hK v' w' φ' r1 h1 a1
theorem agN {call:Nat->List AV->Heap->Option (AV × Heap)} (dG:VK P c) (eQ:GM P c call) {ca:Call} {f:Nat} {ys:List E} {r:AV} {H':Heap} {fl:Fp} (gh:o.op=.call ca) (HO:ca.callee=.value (.func f))
  (hh:cK X φ w H) (he:qf X φ w env a.tmps) (hg:e9 c X φ w) (nN:jW ca.args.toList ys=true) (hs:gU c call env H (.call f ys)=some (r,H',fl)):Ok P X φ w o a r H':=by
 obtain⟨hl,hr⟩:=oX he hg nN;obtain⟨⟨m,q,hf⟩,hc⟩:=Pu (P:=P) eQ hs hh hg (vargs:=ca.args.map a.eval) ⟨by simp[hl],fun i x v hx hv=>hr i x v hx (by simpa using hv)⟩;refine Ok.call ?_ hc;simp only[execOp,gh,resolve,HO,Act.eval,Deferred.ofValue,invoke,Sem.run_bind,Sem.run_pure,Result.andThen_ok,Array.empty_append,Array.append_empty];exact D7 dG hf _
theorem ad7 {call:Nat->List AV->Heap->Option (AV × Heap)} (dG:VK P c) (eQ:GM P c call) {ca:Call} {x:Operand} {y:E} {ys:List E} {r:AV} {H':Heap} {fl:Fp} (gh:o.op=.call ca) (HO:ca.callee=.value x)
  (hh:cK X φ w H) (he:qf X φ w env a.tmps) (hg:e9 c X φ w) (hx:dF x y=true) (nN:jW ca.args.toList ys=true) (hs:gU c call env H (.jM y ys)=some (r,H',fl)):Ok P X φ w o a r H':=by
 obtain⟨hl,hr⟩:=oX he hg nN;have rx:=cF (a:=a) he hg hx;simp only[gU] at hs;split at hs
 case h_2=>cases hs
 rename_i f as bs hy;rw[hy] at rx;generalize VT:a.eval x=ax at rx;cases rx with
 |func _ _ _ va _ vb HN HM hra hrb=>
   have km:tC X φ w (as++IW c env ys++bs) (va++ca.args.map a.eval++vb):=by
    have c1:Cs X φ w as va.toList:=⟨by simpa using HN,fun i x v hx hv=>hra i x v hx (by simpa using hv)⟩;have c2:Cs X φ w (IW c env ys) (ca.args.map a.eval).toList:=⟨by simp[hl],fun i x v hx hv=>hr i x v hx (by simpa using hv)⟩;have c3:Cs X φ w bs vb.toList:=⟨by simpa using HM,fun i x v hx hv=>hrb i x v hx (by simpa using hv)⟩;have c4:=(c1.append c2).append c3
    exact⟨by have:=c4.1; simp at this ⊢; omega,fun i x v hx hv=>c4.2 i x v hx (by
     have:(va++ca.args.map a.eval++vb).toList=va.toList++(ca.args.map a.eval).toList++vb.toList:=by simp
     rw[<-this,kF]; exact hv)⟩
   obtain⟨⟨m,q,hf⟩,hc⟩:=Pu (P:=P) eQ hs hh hg km;refine Ok.call ?_ hc;simp only[execOp,gh,resolve,HO,VT,Deferred.ofValue,invoke,Sem.run_bind,Sem.run_pure,Result.andThen_ok];exact D7 dG hf _
end
end Go.Am

/- Every operation; regions in the order of the text, and regions that draw their order. -/
namespace Go.Am
section
variable {P:Program} {c:fe} {X:Nat->Prop} {φ:dQ} {w:World} {env:Env} {H:Heap} {a:Act} {o:Oper}

theorem am0 {call:Nat->List AV->Heap->Option (AV × Heap)} (dG:VK P c) (eQ:GM P c call) (he:qf X φ w env a.tmps) (hg:e9 c X φ w) (hh:cK X φ w H) {kd:Kd} {v:AV} {H':Heap} {fl:Fp}
  (hk:dz P o.op kd=true) (hs:gU c call env H kd=some (v,H',fl)):Ok P X φ w o a v H':=by
 generalize gh:o.op=op at hk;unfold dz at hk;split at hk
 case h_1=>
  simp[gU] at hs; obtain⟨rfl,rfl,_⟩:=hs;exact Ok.quiet (by simp[execOp,gh]) (cF he hg hk) hh
 case h_2=>
  simp[gU] at hs; obtain⟨rfl,rfl,_⟩:=hs;exact Ok.quiet (by simp[execOp,gh]) (cF he hg hk) hh
 case h_3=>
  simp only[ae] at hk;simp only[gU] at hs;split at hs
  case h_2=>cases hs
  rename_i t ht;simp at hs; obtain⟨rfl,rfl,_⟩:=hs;have r:=cF (a:=a) he hg hk.1.1;rw[ht] at r;exact agI gh hh r (cF he hg hk.1.2) (cF he hg hk.2)
 case h_4=>
  simp[gU] at hs; obtain⟨rfl,rfl,_⟩:=hs;exact WG gh hh hk
 case h_5=>
  simp only[gU] at hs;split at hs
  case isFalse=>cases hs
  rename_i hl;simp at hs; obtain⟨rfl,rfl,_⟩:=hs;exact ak6 gh hh (cF he hg hk) hl
 case h_6=>
  simp only[ae] at hk;simp only[gU] at hs;split at hs
  case h_2=>cases hs
  rename_i cs hf;simp at hs; obtain⟨rfl,rfl,_⟩:=hs;exact ad9 gh hh he hg hk.1 hk.2 hf
 case h_7=>
  simp only[ae,decide_eq_true_eq] at hk;obtain⟨⟨⟨⟨h1,h2⟩,h3⟩,h4⟩,h5⟩:=hk;subst h1;simp only[gU] at hs;split at hs
  case h_2=>cases hs
  rename_i cs hf;split at hs
  case isFalse=>cases hs
  simp at hs; obtain⟨rfl,rfl,_⟩:=hs;exact abz gh hh he hg h2 h3 h4 h5 hf
 case h_8=>
  simp only[ae,decide_eq_true_eq] at hk;exact am3 gh hh (cF he hg hk.2) hk.1 hs
 case h_9=>
  simp only[ae] at hk;simp only[gU] at hs;split at hs
  case h_2=>cases hs
  rename_i b off hb;split at hs
  case h_2=>cases hs
  rename_i cs eM;split at hs
  case isFalse=>cases hs
  rename_i hc;simp at hs; obtain⟨rfl,rfl,_⟩:=hs;have r:=cF (a:=a) he hg hk.1.2;rw[hb] at r;exact adX gh hh eM hk.1.1 r (cF he hg hk.2) hc.1 hc.2.1 hc.2.2
 case h_10=>exact adZ gh hh (cF he hg hk) hs
 case h_11=>
  simp only[ae,decide_eq_true_eq] at hk;obtain⟨⟨h1,h2⟩,h3⟩:=hk;subst h1;simp only[gU] at hs;split at hs
  case h_2=>cases hs
  rename_i r hr;simp at hs; obtain⟨rfl,rfl,_⟩:=hs;exact ak7 gh hh (cF he hg h2) (cF he hg h3) hr
 case h_12=>
  simp only[ae] at hk;obtain⟨⟨⟨h1,h2⟩,h3⟩,h4⟩:=hk;simp only[gU] at hs;split at hs
  case h_2=>cases hs
  rename_i e hr;simp at hs; obtain⟨rfl,rfl,_⟩:=hs;have:=ok_eq gh hh h1 h2 (cF he hg h3) (cF he hg h4) hr;simpa using this
 case h_13=>
  simp only[ae,decide_eq_true_eq] at hk;obtain⟨h1,h2⟩:=hk;subst h1;simp only[gU] at hs;split at hs
  case h_2=>cases hs
  rename_i r hr;simp at hs; obtain⟨rfl,rfl,_⟩:=hs;exact am2 gh hh (cF he hg h2) hr
 case h_14=>
  simp only[ae] at hk;obtain⟨⟨h1,h2⟩,h3⟩:=hk;split at h2
  case h_2=>cases h2
  rename_i k' hu;simp at h2;subst h2;simp only[gU] at hs;split at hs
  case h_2=>cases hs
  rename_i k2 n hn;simp at hs; obtain⟨rfl,rfl,_⟩:=hs;have r:=cF (a:=a) he hg h3;rw[hn] at r;exact ak4 gh hh h1 hu r
 case h_15=>
  simp only[ae,decide_eq_true_eq] at hk;obtain⟨⟨h1,h2⟩,h3⟩:=hk;subst h1;simp[gU] at hs; obtain⟨rfl,rfl,_⟩:=hs;exact akS gh hh he hg h2 h3
 case h_16=>
  simp only[ae] at hk;obtain⟨⟨⟨h1,h2⟩,h3⟩,h4⟩:=hk;simp only[gU] at hs;split at hs
  case h_2=>cases hs
  rename_i k1 l k2 cp hl hcp;split at hs
  case isFalse=>cases hs
  rename_i hc;simp at hs; obtain⟨rfl,rfl,_⟩:=hs;have r1:=cF (a:=a) he hg h3;have r2:=cF (a:=a) he hg h4;rw[hl] at r1;rw[hcp] at r2;exact akR gh hh h1 h2 r1 r2 hc.1 hc.2.1 hc.2.2
 case h_17=>
  simp only[ae] at hk;obtain⟨⟨⟨h1,h2⟩,h3⟩,h4⟩:=hk;exact akP gh hh he hg h1 h2 h3 h4 hs
 case h_18=>
  simp only[ae] at hk;exact ak1 gh hh (cF he hg hk.2) hk.1 hs
 case h_19=>
  simp only[ae] at hk;exact ak0 gh hh (cF he hg hk.2) hk.1 hs
 case h_20=>
  simp only[ae] at hk;exact akY gh hh (cF he hg hk.1.2) (cF he hg hk.2) hk.1.1 hs
 case h_21=>
  simp only[ae] at hk;exact akX gh hh (cF he hg hk.1.2) (cF he hg hk.2) hk.1.1 hs
 case h_22=>
  simp only[ae] at hk;exact am4 gh hh (cF he hg hk.1.2) (cF he hg hk.2) hk.1.1 hs
 case h_23=>
  simp only[ae,decide_eq_true_eq] at hk;exact akW gh hh (cF he hg hk.2) hk.1.1 hk.1.2 hs
 case h_24=>
  rename_i args argTypes k zs x;split at hk
  case h_2=>cases hk
  rename_i x' t h1 h2;simp only[ae] at hk;exact ak5 (x:=x') (t:=t) gh rfl (iL.1 h1) (iL.1 h2) hh (cF he hg hk.2) hk.1.1 hk.1.2 hs
 case h_25=>
  simp only[ae,decide_eq_true_eq] at hk;obtain⟨h1,h2⟩:=hk;subst h1;simp only[gU] at hs;split at hs
  case h_2=>cases hs
  rename_i vs hv;split at hs
  case h_2=>cases hs
  rename_i u hu;simp at hs; obtain⟨rfl,rfl,_⟩:=hs;have r:=cF (a:=a) he hg h2;rw[hv] at r;exact ak2 gh hh r hu
 case h_26=>
  simp only[ae,decide_eq_true_eq] at hk;obtain⟨h1,h2⟩:=hk;subst h1;exact agN dG eQ gh rfl hh he hg h2 hs
 case h_27=>
  simp only[ae] at hk;exact ad7 dG eQ gh rfl hh he hg hk.1 hk.2 hs
 case h_28=>
  rename_i args argTypes y;split at hk
  case h_2=>cases hk
  rename_i x t h1 h2;simp only[ae] at hk;exact akU (x:=x) (t:=t) gh rfl (iL.1 h1) (iL.1 h2) hh (cF he hg hk.2) hk.1 hs
 case h_29=>
  rename_i args argTypes k x y;split at hk
  case h_2=>cases hk
  rename_i x' y' t t' h1 h2;simp only[ae,decide_eq_true_eq] at hk;obtain⟨⟨⟨h3,h4⟩,h5⟩,h6⟩:=hk;subst h3;exact ak9 (x:=x') (y:=y') (t:=t) gh rfl (iL.1 h1) (iL.1 h2) hh (cF he hg h5) (cF he hg h6) h4 hs
 case h_30=>
  simp only[gU] at hs;split at hs
  case h_2=>cases hs
  rename_i r hr;simp at hs; obtain⟨rfl,rfl,_⟩:=hs;exact ad3 (mx:=false) gh rfl hh he hg hk hr
 case h_31=>
  simp only[gU] at hs;split at hs
  case h_2=>cases hs
  rename_i r hr;simp at hs; obtain⟨rfl,rfl,_⟩:=hs;exact ad3 (mx:=true) gh rfl hh he hg hk hr
 case h_32=>
  simp only[ae] at hk;exact ak8 gh hh he hg hk.2.2 (cF he hg hk.2.1) hk.1 hs
 case h_33=>
  rename_i args argTypes k x y;split at hk
  case h_2=>cases hk
  rename_i x' y' t t' h1 h2;simp only[ae] at hk;exact agM (x:=x') (y:=y') (t:=t) (t':=t') gh rfl (iL.1 h1) (iL.1 h2) hh (cF he hg hk.1.2) (cF he hg hk.2) hk.1.1 hs
 case h_34=>cases hs
 case h_35=>cases hk

structure SRel (X:Nat->Prop) (φ:dQ) (w:World) (s:St) (a:Act) (N:Nat):Prop where
 env:qf X φ w s.env a.tmps
 heap:cK X φ w s.H
 defers:a.defers=[]
 size:a.tmps.size=N

theorem adG (a:Act) (d:Option Nat) (v:Value):(a.put d v).tmps.size=a.tmps.size/\(a.put d v).defers=a.defers:=by cases d<;>simp[Act.put]
theorem SRel.put {s:St} {N:Nat} {φ':dQ} {w':World} {d:Option Nat} {v:AV} {v':Value} {H':Heap} (h:SRel X φ w s a N) (hd:∀i,d=some i->i<N) (r:cB (Rd X φ' w') φ' v v') (hh:cK X φ' w' H') (k:fU φ w φ' w') :
  SRel X φ' w' ⟨vA s.env d v,H'⟩ (a.put d v') N:=by
 obtain⟨h1,h2⟩:=adG a d v';refine⟨?_,hh,by rw[h2]; exact h.defers,by rw[h1]; exact h.size⟩;cases d with
 |none=>exact h.env.m6 k
 |some i=>exact (h.env.m6 k).put (by rw[h.size]; exact hd i rfl) r
theorem abL {ts:Array Value} {g:Nat} {b:Bool} (h:ts.getD g undef=.bool b):ts[g]?=some (.bool b):=by
 rw[bn] at h;cases hg:ts[g]? with
 |none=>rw[hg] at h; simp[undef] at h
 |some v=>rw[hg] at h; simp at h; rw[h]
theorem Xl {ts:Array Value} {g:Nat} (h:ts.getD g undef=.tuple #[]):ts[g]?=none\/ts[g]?=some (.tuple #[]):=by
 rw[bn] at h;cases hg:ts[g]? with
 |none=>exact .inl rfl
 |some v=>rw[hg] at h; simp at h; rw[h]; exact .inr rfl

end
end Go.Am

/- Regions that draw their order: the order makes no difference. -/
namespace Go.Am
section
variable {P:Program} {c:fe} {call:Nat->List AV->Heap->Option (AV × Heap)}

theorem ko {e1 e2:Env} {x:E} (h:∀i∈x.slot,get e1 i=get e2 i):ev c e1 x=ev c e2 x:=by
 cases x with
 |t i=>exact h i (by simp[E.slot])
 |k x=>rfl
 |g i=>rfl
theorem DI {e1 e2:Env} {d m:Nat} {x:Option E} (h:∀i∈Ny x,get e1 i=get e2 i):Ft c e1 d m x=Ft c e2 d m x:=by
 cases x with
 |none=>rfl
 |some x=>simp only[Ft]; rw[ko h]
theorem o8 {H:Heap} {b b':Nat} {x:XT} (h:b≠b'):aO (H.set b x) b'=aO H b':=by
 unfold aO; rw[bT h]
def GL (fp:Fp) (H H':Heap) (v:AV) (f:Heap->Option (AV × Heap × Fp)):Prop:=
 (fp=.no->H'=H/\∀ H2,f H2=some (v,H2,.no))/\(∀b,fp=.rd b->H'=H/\∀ H2,aO H2 b=aO H b->f H2=some (v,H2,.rd b))/\(fp=.ra->H'=H) /\
 (∀n bs,fp=.wr n bs->∀b,b<n->b∉bs->aO H' b=aO H b)
theorem GL.no {H:Heap} {v:AV} {f:Heap->Option (AV × Heap × Fp)} (h:∀H2,f H2=some (v,H2,.no)):GL .no H H v f:=
 ⟨fun _=>⟨rfl,h⟩,(fun b h=>by cases h),fun _=>rfl,(fun n bs h=>by cases h)⟩
theorem GL.wr {H H':Heap} {v:AV} {n:Nat} {bs:List Nat} {f:Heap->Option (AV × Heap × Fp)} (h:∀b,b<n->b∉bs->aO H' b=aO H b):GL (.wr n bs) H H' v f:=
 ⟨(fun h=>by cases h),(fun b h=>by cases h),(fun h=>by cases h),fun n' bs' e=>by cases e; exact h⟩
theorem mem_iff {i:Nat}:∀{l:List Nat},mem i l=true ↔ i∈l
 |[]=>by simp[mem]
 |j::r=>by
   unfold mem;split
   ·rename_i h; simp[h]
   ·rename_i h; rw[mem_iff]; simp[h]
inductive Anc (ops:Array Oper) (i:Nat):Nat->Prop
 |one {j:Nat} {o:Oper} (ho:ops[j]?=some o) (h:i∈direct o):Anc ops i j
 |via {j k:Nat} {o:Oper} (ho:ops[j]?=some o) (h:k∈direct o) (ha:Anc ops i k):Anc ops i j
theorem Ds {o:Oper} {i:Nat}:i∈direct o ↔ ∃e∈o.after,Region.binds .any e=true/\e.on=i:=by
 unfold direct;simp only[List.mem_map,List.mem_filter,V7];constructor
 ·rintro⟨e,⟨h1,h2⟩,h3⟩; exact⟨e,h1,h2,h3⟩
 ·rintro⟨e,h1,h2,h3⟩; exact⟨e,⟨h1,h2⟩,h3⟩
def XR (ops:Array Oper) (listed:Array Bool):Prop:=∀j o,ops[j]?=some o->listed.getD j false=true->∀i∈direct o,listed.getD i false=true
theorem XR.Fw {ops:Array Oper} {listed:Array Bool} (h:XR ops listed) {i j:Nat} (ha:Anc ops i j):∀o,ops[j]?=some o->(∀k∈direct o,listed.getD k false=true)->listed.getD i false=true:=by
 induction ha with
 |one ho hm=>intro o ho' hd; rw[ho] at ho'; cases ho'; exact hd _ hm
 |via ho hm ha ih=>
   intro o ho' hd;rw[ho] at ho';cases ho';have hk:=hd _ hm;cases ha with
   |one ho2 hm2=>exact h _ _ ho2 hk _ hm2
   |via ho2 hm2 ha2=>exact ih _ ho2 fun l hl=>h _ _ ho2 hk l hl
def afT (ops:Array Oper) (Fw:List (List Nat)):Prop:=∀j l,Fw[j]?=some l->∀i∈l,Anc ops i j
theorem Bg {i:Nat}:∀{l:List Nat},i∈dedup l->i∈l
 |[],h=>by simp[dedup] at h
 |x::r,h=>by
   unfold dedup at h;split at h
   ·exact dh _ (Bg h)
   ·rcases aK.1 h with h|h
    ·subst h; simp
    ·exact dh _ (Bg h)
theorem VF {ops:Array Oper} {Fw:List (List Nat)} (h:afT ops Fw) {j:Nat} {o:Oper} (ho:ops[j]?=some o):∀i∈Mf Fw o,Anc ops i j:=by
 intro i hi;unfold Mf at hi;rcases List.mem_append.1 (Bg hi) with hi|hi
 ·exact .one ho hi
 ·obtain⟨k,hk,A9⟩:=List.mem_flatMap.1 hi;refine .via ho (Bg hk) ?_;rw[List.getD_eq_getElem?_getD] at A9;cases hl:Fw[k]? with
  |none=>rw[hl] at A9; simp at A9
  |some l=>rw[hl] at A9; exact h k l hl i A9
end
end Go.Am

/- A run of the compact code is a run of the dump's code; calls; the theorem that ties a call to the kit's 'Calls'. -/
namespace Go.Am
section
variable {P:Program} {c:fe}

def Ex.to:Ex->Exit
 |.normal=>.normal
 |.exit id=>.exit id
 |.ret=>.ret

def LW (P:Program) (cd:Code) (Q:Exit->Act->World->Prop) (a:Act) (w:World):Prop:=
 ∀ (b:Frame) (k:List Item) (cs:List Frame),∃e a' w',Q e a' w'/\Arrives P (lone (b.at a (.code cd::.inLoop cd::k)) cs w) b k cs e a' w'
theorem LW.loop {cd:Code} {Q:Exit->Act->World->Prop} {a:Act} {w:World} (h:LW P cd Q a w):(Code.loop cd).wp P Q a w:=by
 intro b k cs;obtain⟨e,a',w',hq,UZ⟩:=h b k cs;exact⟨e,a',w',hq,.of_steps (.one step_loop) UZ⟩
theorem LW.step {cd:Code} {Q:Exit->Act->World->Prop} {a:Act} {w:World} (h:cd.wp P (Exit.then (LW P cd Q) Q) a w):LW P cd Q a w:=by
 intro b k cs;obtain⟨e,a1,w1,hq,UZ⟩:=h b (.inLoop cd::k) cs;cases e with
 |normal=>
   obtain⟨e2,a2,w2,hq2,anz⟩:=hq b k cs;exact⟨e2,a2,w2,hq2,.of_steps (Steps.trans UZ (.one step_inLoop)) anz⟩
 |exit id=>exact⟨_,a1,w1,hq,.pass (x:=.inLoop cd) rfl (fun _ _=>.inl (by simp)) UZ⟩
 |goto l=>exact⟨_,a1,w1,hq,.pass (x:=.inLoop cd) rfl (fun _ _=>.inl (by simp)) UZ⟩
 |ret=>exact⟨_,a1,w1,hq,.pass (x:=.inLoop cd) rfl (fun _ _=>.inl (by simp)) UZ⟩
 |panic ch=>exact⟨_,a1,w1,hq,.pass (x:=.inLoop cd) rfl (fun _ _=>.inl (by simp)) UZ⟩
 |outgrown=>exact⟨_,a1,w1,hq,.pass (x:=.inLoop cd) rfl (fun _ _=>.inl (by simp)) UZ⟩

theorem sy:∀(args:List AV) (k i:Nat),get (eC k args) i=if k<=i then args[i-k]?.getD .any else .any
 |[],k,i=>by simp[eC,get]
 |x::r,k,i=>by
   simp only[eC,get];by_cases h:i=k
   ·subst h; simp
   ·rw[if_neg h,sy r (k+1) i];by_cases h2:k+1<=i
    ·rw[if_pos h2,if_pos (by omega),show i-k=(i-(k+1))+1 by omega,nZ]
    ·rw[if_neg h2,if_neg (by omega)]
theorem acB {X:Nat->Prop} {φ:dQ} {w:World} {s:St} {ts:Array Value} (he:qf X φ w s.env ts) (hh:cK X φ w s.H):∀{rs:List ResultVar} {qs:List Rv} {xs:List AV},H6 P rs qs=true->SP s.H s.env qs=some xs ->
  ∃ vs:List Value,(rs.mapM (m:=Sem) fun
   |.tmp t=>pure (ts.getD t undef)
   |.cell a t=>do loadVar t (<- asAddr (ts.getD a undef))).run P w=.ok vs w/\Cs X φ w xs vs
 |[],[],xs,_,h=>by simp[SP] at h; subst h; exact⟨[],rfl,rfl,fun i c v hc=>by simp at hc⟩
 |[],_::_,_,h,_=>by simp[H6] at h
 |_::_,[],_,h,_=>by simp[H6] at h
 |r::rs,q::qs,xs,h,hx=>by
   simp only[H6,ae] at h;simp only[SP] at hx;split at hx
   case h_2=>cases hx
   rename_i x ys h1 h2;simp at hx;subst hx;obtain⟨vs,e1,e2⟩:=acB he hh h.2 h2
   have one:∃v,(match r with
    |.tmp t=>pure (ts.getD t undef)
    |.cell a t=>do loadVar t (<- asAddr (ts.getD a undef)):Sem Value).run P w=.ok v w/\cB (Rd X φ w) φ x v:=by
    have hr:=h.1;unfold chkR at hr;split at hr
    ·rename_i t i;simp at hr;subst hr;simp[resA] at h1;subst h1;exact⟨_,rfl,he _⟩
    ·rename_i a t i ag;simp only[ae,decide_eq_true_eq] at hr;obtain⟨rfl,Lu⟩:=hr;have r:=he a;simp only[resA] at h1;split at h1
     ·rename_i b off hg;split at h1
      case h_2=>cases h1
      rename_i cs eM;rw[hg] at r;obtain⟨g,sz,arr,e,h3,_,_,_,_,_,_,h4⟩:=Sn.WL hh eM r;obtain⟨u,h5,h6⟩:=Ra Lu h1 h4;exact⟨u,by simp[h3,asAddr,h5],h6⟩
     ·rename_i cs hg;rw[hg] at r;obtain⟨ad,h3,h4⟩:=Sn.ZR r;obtain⟨u,h5,h6⟩:=Ra Lu h1 h4;exact⟨u,by simp[h3,asAddr,h5],h6⟩
     ·cases h1
    ·cases hr
   obtain⟨v,e3,e4⟩:=one;refine⟨v::vs,?_,by simp[e2.1],fun i c u hc hu=>?_⟩
   ·simp only[List.mapM_cons,Sem.run_bind,Sem.run_pure];rw[e3];simp only[Result.andThen_ok];rw[e1];simp only[Result.andThen_ok]
   ·cases i with
    |zero=>simp at hc hu; subst hc; subst hu; exact e4
    |succ i=>simp at hc hu; exact e2.2 i c u hc hu
theorem GP {X:Nat->Prop} {φ:dQ} {w:World} {s:St} {ts:Array Value} {fn:Func} {qs:List Rv} {xs:List AV} (he:qf X φ w s.env ts) (hh:cK X φ w s.H) (hc:H6 P fn.results.toList qs=true) (hx:SP s.H s.env qs=some xs) :
  ∃ v,(results fn ts).run P w=.ok v w/\cB (Rd X φ w) φ (pF xs) v:=by
 obtain⟨vs,h1,h2⟩:=acB (P:=P) he hh hc hx
 have h3:(fn.results.mapM (m:=Sem) fun
   |.tmp t=>pure (ts.getD t undef)
   |.cell a t=>do loadVar t (<- asAddr (ts.getD a undef))).run P w=.ok vs.toArray w:=by
  rw[<-Bq (xs:=fn.results),List.mapM_toArray];simp only[Sem.run_map];rw[h1];simp only[Result.andThen_ok]
 have h4:(results fn ts).run P w=(Result.ok vs.toArray w).andThen (fun (a:Array Value) w'=>(pure (if h:a.size=1 then a[0] else .tuple a):Sem Value).run P w'):=by
  unfold results;simp only[Sem.run_bind];exact congrArg (fun z=>Result.andThen z _) h3
 rw[h4];simp only[Result.andThen_ok,Sem.run_pure];refine⟨_,rfl,?_⟩;obtain⟨hl,hr⟩:=h2
 match xs,vs,hl,hr with
 |[],[],_,_=>exact .dJ _ _ _ rfl fun i c v hc=>by simp at hc
 |[x],[v],_,hr=>exact hr 0 x v rfl rfl
 |x::y::xs,v::u::vs,hl,hr=>
   have e:¬((v::u::vs).toArray.size=1):=by simp
   rw[dif_neg e];exact .dJ _ _ _ (by simpa using hl) fun i c z hc hz=>hr i c z hc (by simpa using hz)

end
end Go.Am
