/- An abstract machine, and its soundness against the model. -/
import Derived.WalkKit
import Derived.Laws.StructEq
import Derived.Laws.MakeOwn
import Derived.Laws.Concat
import Derived.MapKept
import Derived.WideKeyRuns
import Derived.Scope
set_option linter.unusedVariables false
/- The abstract machine: values by value, a small heap of own blocks, and an interpreter with fuel for the compact code. -/
open Array renaming getD_eq_getD_getElem? → bh, getElem?_append_left → uJ, getElem?_eq_getElem → mN, getElem?_eq_some_iff → dV, getElem?_map → tX, getElem?_push → B6, getElem?_toList → ff, length_toList → sS, map → H8, mem_toList_iff → Vm, range → Bq, toArray_toList → Bp, toList_inj → ib
open Bool renaming and_eq_true → ae, false_eq_true → bk, not_eq_true' → bJ, true_eq → Gf
open ForInStep renaming yield → XE
open List renaming all_eq_true → ph, append_assoc → dJ, eq_nil_of_length_eq_zero → eC, ext_getElem? → dN, getElem?_append_left → aq, getElem?_append_right → aM, getElem?_cons_succ → pq, getElem?_cons_zero → Q8, getElem?_drop → bf, getElem?_map → cn, getElem?_of_mem → bE, getElem?_set → aR, getElem?_set_ne → cQ, getElem?_take → bP, getElem?_take_of_lt → aT, getElem?_toArray → As, length_append → bK, length_cons → cc, length_drop → eQ, length_take → bw, map_cons → dp, map_nil → we, mem_append → aF, mem_cons → aG, mem_cons_of_mem → cH, mem_of_getElem? → bn, size_toArray → vo
open Nat renaming add_mul → cK, add_zero → B3, le_refl → aO, le_trans → MG, lt_of_lt_of_le → eY, mul_le_mul_right → bS, sub_zero → Vg
open Option renaming getD_some → dY, isSome_iff_exists → aU, map_none → Iq, map_some → cD
open Option.some renaming injEq → af
open PUnit renaming unit → ME
open Prod.mk renaming injEq → aC
namespace Go.Am

inductive Rt where
 |s (i:Nat)|sc (i j:Nat)|c (b j:Nat)
 deriving DecidableEq,Inhabited
inductive AV where
 |any|undef|fN|fS|du
 |int (k:IntKind) (n:Int)
 |bool (b:Bool)
 |str (s:ByteArray)
 |agg (cs:List AV)
 |dt (vs:List AV)
 |list (k:Nat) (xs:List AV)
 |dy (cs:List AV)
 |ptr (b off:Nat)
 |sl (k b off len:Nat)
 |func (fn:Fn) (first caps:List AV)
 |own (k:Nat) (xs:List AV)
 |dP (k:Nat) (p:Rt) (off len:Nat)
 |fv (k:Nat) (p:Rt) (i off:Nat)
 deriving Inhabited

abbrev Vf:=Option (List AV)
abbrev Heap:=List Vf
abbrev Env:=List (Nat × AV)

def lU:Nat:=4294967296

def get:Env->Nat->AV
 |[],_=>.any
 |(j,u)::r,i=>if i=j then u else get r i
def put:Env->Nat->AV->Env
 |[],i,v=>[(i,v)]
 |(j,u)::r,i,v=>if i<j then (i,v)::(j,u)::r else if i=j then (i,v)::r else (j,u)::put r i v
def mem:Nat->List Nat->Bool
 |_,[]=>false
 |i,j::r=>if i=j then true else mem i r
def tC (keep:List Nat):Env->Env
 |[]=>[]
 |(j,u)::r=>if mem j keep then (j,u)::tC keep r else tC keep r
def vF (env:Env) (d:Option Nat) (v:AV):Env:=
 match d with
 |some d=>put env d v
 |none=>env
def dH:Nat->List AV->Env
 |_,[]=>[]
 |i,a::r=>(i,a)::dH (i+1) r

def AV.cells:AV->List AV
 |.agg cs=>cs
 |x=>[x]
def AV.leaf:AV->Bool
 |.any|.undef|.agg _|.dt _=>false
 |_=>true
def bC:List AV->Bool
 |[]=>true
 |x::r=>x.leaf&&bC r

mutual
def AV.plain:AV->Bool
 |.ptr _ _|.sl _ _ _ _=>false
 |.agg cs=>tq cs
 |.dt cs=>tq cs
 |.func _ a b=>tq a&&tq b
 |_=>true
def tq:List AV->Bool
 |[]=>true
 |x::r=>x.plain&&tq r
end
mutual
def AV.flat:AV->Bool
 |.ptr _ _|.sl _ _ _ _|.list _ _|.dy _=>false
 |.agg cs=>HX cs
 |.dt cs=>HX cs
 |.func _ a b=>HX a&&HX b
 |_=>true
def HX:List AV->Bool
 |[]=>true
 |x::r=>x.flat&&HX r
end
mutual
def AV.wy (n:Nat):AV->Bool
 |.ptr b _=>decide (b<n)
 |.sl _ b _ _=>decide (b<n)
 |.agg cs=>qb n cs
 |.dt cs=>qb n cs
 |.func _ a b=>qb n a&&qb n b
 |_=>true
def qb (n:Nat):List AV->Bool
 |[]=>true
 |x::r=>x.wy n&&qb n r
end
def CY (n:Nat):Heap->Bool
 |[]=>true
 |none::r=>CY n r
 |some cs::r=>qb n cs&&CY n r

def aJ (H:Heap) (b:Nat):Option (List AV):=
 match H[b]? with
 |some (some cs)=>some cs
 |_=>none
def el:List AV->AV
 |[.agg cs]=>.agg [.agg cs]
 |[x]=>x
 |cs=>.agg cs
def E7 (k:Nat):Nat->List AV->List AV
 |0,_=>[]
 |n+1,cs=>el (cs.take k)::E7 k n (cs.drop k)
def FC (f:AV->Option (AV × List Nat)):List AV->Option (List AV × List Nat)
 |[]=>some ([],[])
 |x::r=>match f x,FC f r with
   |some (y,b),some (ys,bs)=>some (y::ys,b++bs)
   |_,_=>none
def Ew:Fn->Bool
 |.yield _=>true
 |_=>false
def F0 (H:Heap):Nat->AV->Option (AV × List Nat)
 |0,_=>none
 |n+1,x=>match x with
   |.ptr b off=>match aJ H b with
     |some cs=>match FC (F0 H n) (cs.drop off) with
       |some (ys,bs)=>some (.dy ys,b::bs)
       |none=>none
     |none=>none
   |.sl k b off len=>match aJ H b with
     |some cs=>if off+len*k<=cs.length then
       match FC (F0 H n) ((cs.drop off).take (len*k)) with
       |some (ys,bs)=>some (.list k (E7 k len ys),b::bs)
       |none=>none
       else none
     |none=>none
   |.agg cs=>match FC (F0 H n) cs with
     |some (ys,bs)=>some (.agg ys,bs)
     |none=>none
   |.dt cs=>match FC (F0 H n) cs with
     |some (ys,bs)=>some (.dt ys,bs)
     |none=>none
   |.func f a c=>match Ew f,FC (F0 H n) a,FC (F0 H n) c with
     |false,some (ys,bs),some (zs,cs)=>some (.func f ys zs,bs++cs)
     |_,_,_=>none
   |x=>some (x,[])
def abj (n:Nat):List Nat->Bool
 |[]=>true
 |b::r=>decide (n<=b)&&abj n r
def kill:Heap->List Nat->Heap
 |H,[]=>H
 |H,b::r=>kill (H.set b none) r
def Xv:Nat:=8

inductive E where
 |t (i:Nat)|k (x:AV)|g (i:Nat)
 deriving Inhabited

inductive Et where
 |bool|str (ints:List Bool)|V8|KI|nfn
 deriving Inhabited

inductive Kt where
 |kint (k:IntKind)|CR|kst (ints:List Bool)
 deriving Inhabited
inductive Kd where
 |mv (x:E)|pick (c a b:E)
 |new (zs:List AV)|box (x:E)
 |build (zs:List AV) (parts:List (Nat × Nat × E))
 |dK (k n:Nat) (zs:List AV) (parts:List (Nat × Nat × E))
 |ld (ag:Option Nat) (x:E)|st (k:Nat) (a v:E)
 |oS (x:E)
 |bin (op:BinOp) (x y:E)|eq (neg:Bool) (t:Et) (x y:E)|un (op:UnOp) (x:E)|Q5 (k:IntKind) (x:E)
 |U0 (fn:Fn) (first caps:List E)
 |P6 (k:Nat) (zs:List AV) (len cap:E)
 |Fc (k:Nat) (x:E) (lo hi:Option E)
 |yf (off:Nat) (x:E)|Na (n:Nat) (x:E) (hi:Option E)|fld (off:Nat) (ag:Option Nat) (x:E)
 |qc (k:Nat) (x i:E)|Ic (n k:Nat) (x i:E)|ix (n k:Nat) (ag:Option Nat) (x i:E)
 |ext (i:Nat) (x:E)
 |call (f:Nat) (args:List E)|jC (x:E) (args:List E)
 |ixs (tab:List Nat) (i:E)|clr (k:Nat) (zs:List AV) (x:E)
 |len (x:E)|app (k:Nat) (x y:E)|min (xs:List E)|max (xs:List E)|copy (k:Nat) (x y:E)
 |FA|Bs (kt:Kt) (ok:Bool) (z:AV) (x k:E)|CH (kt:Kt) (x k v:E)
 |bad
 deriving Inhabited

structure O where
 dst:Option Nat
 guard:Option (Nat × Bool)
 kd:Kd
 deriving Inhabited

def E.slot:E->List Nat
 |.t i=>[i]
 |_=>[]
def pw:List E->List Nat
 |[]=>[]
 |x::r=>x.slot++pw r
def th:List (Nat × Nat × E)->List Nat
 |[]=>[]
 |p::r=>p.2.2.slot++th r
def Nt:Option E->List Nat
 |some x=>x.slot
 |none=>[]
def Kd.reads:Kd->List Nat
 |.mv x|.box x|.ld _ x|.oS x|.un _ x|.Q5 _ x|.yf _ x|.fld _ _ x|.ext _ x|.len x=>x.slot
 |.pick c a b=>c.slot++(a.slot++b.slot)
 |.new _=>[]
 |.bad=>[]
 |.FA=>[]
 |.Bs _ _ _ x k=>x.slot++k.slot
 |.CH _ x k v=>x.slot++(k.slot++v.slot)
 |.ixs _ i=>i.slot
 |.clr _ _ x=>x.slot
 |.build _ ps|.dK _ _ _ ps=>th ps
 |.st _ x y|.bin _ x y|.eq _ _ x y|.P6 _ _ x y|.qc _ x y|.Ic _ _ x y|.ix _ _ _ x y|.app _ x y|.copy _ x y=>x.slot++y.slot
 |.U0 _ a b=>pw a++pw b
 |.Fc _ x lo hi=>x.slot++(Nt lo++Nt hi)
 |.Na _ x hi=>x.slot++Nt hi
 |.call _ xs|.min xs|.max xs=>pw xs
 |.jC x xs=>x.slot++pw xs
def Kd.pure:Kd->Bool
 |.mv _|.pick _ _ _|.build _ _|.oS _|.bin _ _ _|.eq _ _ _ _|.un _ _|.Q5 _ _|.U0 _ _ _|.Fc _ _ _ _|.yf _ _|.fld _ _ _|.qc _ _ _|.Ic _ _ _ _|.ix _ _ _ _ _|.ext _ _|.ixs _ _|.len _|.min _|.max _=>true
 |_=>false
def O.reads (o:O):List Nat:=(match o.guard with
 |some (g,_)=>[g]
 |none=>[])++o.kd.reads

inductive Fp where
 |no|rd (b:Nat)|ra|wr (n:Nat) (bs:List Nat)
 deriving Inhabited
def Fp.ok:Fp->Fp->Bool
 |.no,_=>true
 |_,.no=>true
 |.rd _,.rd _=>true
 |.rd _,.ra=>true
 |.ra,.rd _=>true
 |.ra,.ra=>true
 |.rd b,.wr n bs=>decide (b<n)&&!mem b bs
 |.wr n bs,.rd b=>decide (b<n)&&!mem b bs
 |_,_=>false

inductive C where
 |skip|ret|exit (id:Nat)
 |pI (os:List O) (dr:Bool) (un:List (Nat × Nat)) (keep:List Nat)
 |seq (a b:C)|cond (c:E) (a b:C)|aJ (id:Nat) (b:C)|loop (b:C)
 deriving Inhabited

inductive Md where|P|T|K
 deriving Inhabited
inductive Rv where|t (i:Nat)|c (i:Nat) (ag:Option Nat)
 deriving Inhabited
structure fW where
 n:Nat
 np:Nat
 res:List Rv
 body:C
 deriving Inhabited
structure eI where
 fn:Nat->Option (Md × fW)
 gl:Nat->List AV
 orc:Nat->Option (List AV->Heap->Option (AV × Heap))

inductive Ex where|normal|exit (id:Nat)|ret
 deriving Inhabited
structure St where
 env:Env
 H:Heap
 deriving Inhabited

def ev (c:eI) (env:Env):E->AV
 |.t i=>get env i
 |.k x=>x
 |.g i=>.dy (c.gl i)
def IM (c:eI) (env:Env):List E->List AV
 |[]=>[]
 |x::r=>ev c env x::IM c env r

def Fj (ag:Option Nat) (cs:List AV):Option AV:=
 match ag with
 |some k=>if k<=cs.length then some (.agg (cs.take k)) else none
 |none=>cs.head?
def j9 (cs:List AV) (off:Nat) (vs:List AV):List AV:=cs.take off++vs++cs.drop (off+vs.length)
def idx (x:AV) (len:Nat):Option Nat:=
 match x with
 |.int _ i=>if 0<=i/\i<(len:Int) then some i.toNat else none
 |_=>none
def bnd (x:AV) (hi:Nat):Option Nat:=
 match x with
 |.int _ i=>if 0<=i/\i<=(hi:Int) then some i.toNat else none
 |_=>none
def EW (c:eI) (env:Env) (dflt hi:Nat):Option E->Option Nat
 |none=>some dflt
 |some x=>bnd (ev c env x) hi
def qO (c:eI) (env:Env):List AV->List (Nat × Nat × E)->Option (List AV)
 |zs,[]=>some zs
 |zs,(off,sz,x)::r=>
   if (ev c env x).cells.length=sz/\off+sz<=zs.length/\bC (ev c env x).cells=true then qO c env (j9 zs off (ev c env x).cells) r else none

def arith (op:BinOp) (k:IntKind) (x y:Int):Option AV:=
 match op with
 |.add=>some (.int k (k.wrap (x+y)))
 |.sub=>some (.int k (k.wrap (x-y)))
 |.mul=>some (.int k (k.wrap (x*y)))
 |.quo=>if y=0 then none else some (.int k (k.wrap (x.tdiv y)))
 |.rem=>if y=0 then none else some (.int k (x.tmod y))
 |.and=>some (.int k (bits .and k x y))
 |.or=>some (.int k (bits .or k x y))
 |.xor=>some (.int k (bits .xor k x y))
 |.andNot=>some (.int k (bits .andNot k x y))
 |.eql=>some (.bool (x == y))
 |.neq=>some (.bool (x != y))
 |.lss=>some (.bool (decide (x<y)))
 |.leq=>some (.bool (decide (x<=y)))
 |.gtr=>some (.bool (decide (y<x)))
 |.geq=>some (.bool (decide (y<=x)))
 |_=>none
def Bb:List Bool->List AV->List AV->Option Bool
 |[],[],[]=>some true
 |true::l,.int k a::r,.int k' b::s=>if k=k' then match Bb l r s with
   |some e=>some (a == b&&e)
   |none=>none
   else none
 |false::l,.bool a::r,.bool b::s=>match Bb l r s with
   |some e=>some (a == b&&e)
   |none=>none
 |_,_,_=>none
def pQ (b:Nat):AV:=.func (.yield 0) [] [.ptr b 0]
def mapOf:AV->Option Nat
 |.func (.yield 0) [] [.ptr b 0]=>some b
 |_=>none
def mgv (ok:Bool) (z:AV) (r:Option (Nat × AV)):AV:=
 match r with
 |some (_,v)=>if ok then .dt [v,.bool true] else v
 |none=>if ok then .dt [z,.bool false] else z
def CJ (k v:AV) (es:List AV) (r:Option (Nat × AV)):List AV:=
 match r with
 |some (i,_)=>es.set i (.dt [k,v])
 |none=>es++[.dt [k,v]]
def AW:Kt->AV->AV->Option Bool
 |.kint k,.int k1 a,.int k2 b=>if k1=k/\k2=k then some (a == b) else none
 |.CR,.str a,.str b=>some (a == b)
 |.kst l,.agg xs,.agg ys=>Bb l xs ys
 |_,_,_=>none
def iQ (t:Kt) (k:AV):List AV->Nat->Option (Option (Nat × AV))
 |[],_=>some none
 |.dt [k',v]::r,i=>match AW t k k' with
   |some true=>some (some (i,v))
   |some false=>iQ t k r (i+1)
   |none=>none
 |_::_,_=>none
def isNil:Et->AV->Option Bool
 |.V8,.du=>some true
 |.V8,.sl _ _ _ _=>some false
 |.V8,.list _ (_::_)=>some false
 |.KI,.fN=>some true
 |.KI,.ptr _ _=>some false
 |.KI,.dy _=>some false
 |.nfn,.fS=>some true
 |.nfn,.func f _ _=>if Ew f then none else some false
 |_,_=>none
def eqA:Et->AV->AV->Option Bool
 |.bool,.bool a,.bool b=>some (a == b)
 |.str l,.agg xs,.agg ys=>Bb l xs ys
 |.V8,x,.du=>isNil .V8 x
 |.KI,x,.fN=>isNil .KI x
 |.nfn,x,.fS=>isNil .nfn x
 |_,_,_=>none
def sP (op:BinOp) (x y:AV):Option AV:=
 match x,y with
 |.int k a,.int k' b=>match op with
   |.shl=>if b<0 then none else some (.int k (k.wrap (a*2 ^ (min b.toNat k.bits))))
   |.shr=>if b<0 then none else some (.int k (a.fdiv (2 ^ (min b.toNat k.bits))))
   |op=>if k=k' then arith op k a b else none
 |.str a,.str b=>match op with
   |.add=>if a.size+b.size<=1000000000 then some (.str (a++b)) else none
   |_=>none
 |_,_=>none
def Vr (op:UnOp) (x:AV):Option AV:=
 match op,x with
 |.neg,.int k n=>some (.int k (k.wrap (0-n)))
 |.xor,.int k n=>some (.int k (bits .xor k (if k.signed then -1 else k.max) n))
 |.not,.bool b=>some (.bool (!b))
 |_,_=>none
def aA:List AV->List AV
 |[]=>[]
 |x::r=>x.cells++aA r
def jG (H:Heap) (k:Nat):AV->Option (List AV × Nat)
 |.du=>some ([],0)
 |.list k' xs=>if k'=k then some (aA xs,xs.length) else none
 |.sl k' b off len=>match aJ H b with
   |some cs=>if k'=k/\off+len*k<=cs.length then some ((cs.drop off).take (len*k),len) else none
   |none=>none
 |_=>none
def lenA:AV->Option Nat
 |.du=>some 0
 |.list _ xs=>some xs.length
 |.sl _ _ _ len=>some len
 |_=>none
def CM (mx:Bool):AV->List AV->Option AV
 |x,[]=>some x
 |.int k a,.int _ b::r=>CM mx (.int k (if mx then (if b > a then b else a) else (if b<a then b else a))) r
 |_,_=>none
def Br (mx:Bool):List AV->Option AV
 |.int k a::r=>CM mx (.int k a) r
 |_=>none
def rep (zs:List AV):Nat->List AV
 |0=>[]
 |n+1=>zs++rep zs n

def Ab (c:eI) (call:Nat->List AV->Heap->Option (AV × Heap)) (f:Nat) (args:List AV) (H:Heap):Option (AV × Heap × Fp):=
 match c.fn f with
 |none=>none
 |some (.K,_)=>match call f args H with
   |some (r,H')=>some (r,H',.wr 0 [])
   |none=>none
 |some (.T,_)=>match call f args H with
   |some (r,H')=>match F0 H' Xv r with
     |some (r',bs)=>if H.length<=H'.length/\abj H.length bs=true/\CY H.length (H'.take H.length)=true then some (r',H'.take H.length,.wr 0 []) else none
     |none=>none
   |none=>none
 |some (.P,_)=>if tq args then
   match call f args [] with
   |some (r,H')=>match F0 H' Xv r with
     |some (r',_)=>some (r',H,.no)
     |none=>none
   |none=>none
   else match FC (F0 H Xv) args with
    |some (uH,bs)=>match call f uH [] with
      |some (r,H')=>match F0 H' Xv r with
        |some (r',_)=>if r'.flat then some (r',H,.ra) else some (r',kill H bs,.wr 0 [])
        |none=>none
      |none=>none
    |none=>none

def fO (c:eI) (call:Nat->List AV->Heap->Option (AV × Heap)) (env:Env) (H:Heap):Kd->Option (AV × Heap × Fp)
 |.mv x=>some (ev c env x,H,.no)
 |.pick t a b=>match ev c env t with
   |.bool t=>some (if t then ev c env a else ev c env b,H,.no)
   |_=>none
 |.new zs=>some (.ptr H.length 0,H++[some zs],.wr H.length [])
 |.box x=>if bC (ev c env x).cells then some (.ptr H.length 0,H++[some (ev c env x).cells],.wr H.length []) else none
 |.build zs ps=>match qO c env zs ps with
   |some cs=>some (.agg cs,H,.no)
   |none=>none
 |.dK k n zs ps=>match qO c env (rep zs n) ps with
   |some cs=>if bC cs then some (.sl k H.length 0 n,H++[some cs],.wr H.length []) else none
   |none=>none
 |.ld ag x=>match ev c env x with
   |.dy cs=>match Fj ag cs with
     |some v=>some (v,H,.no)
     |none=>none
   |.ptr b off=>match aJ H b with
     |some cs=>match Fj ag (cs.drop off) with
       |some v=>some (v,H,.rd b)
       |none=>none
     |none=>none
   |_=>none
 |.st k a v=>match ev c env a with
   |.ptr b off=>match aJ H b with
     |some cs=>if (ev c env v).cells.length=k/\off+k<=cs.length/\bC (ev c env v).cells=true then
       some (.undef,H.set b (some (j9 cs off (ev c env v).cells)),.wr H.length [b]) else none
     |none=>none
   |_=>none
 |.oS x=>match ev c env x with
   |.ptr b off=>some (.ptr b off,H,.no)
   |.dy cs=>some (.dy cs,H,.no)
   |.func (.func f) a b=>some (.func (.func f) a b,H,.no)
   |_=>none
 |.bin op x y=>match sP op (ev c env x) (ev c env y) with
   |some v=>some (v,H,.no)
   |none=>none
 |.eq ng t x y=>match eqA t (ev c env x) (ev c env y) with
   |some e=>some (.bool (if ng then !e else e),H,.no)
   |none=>none
 |.un op x=>match Vr op (ev c env x) with
   |some v=>some (v,H,.no)
   |none=>none
 |.Q5 k x=>match ev c env x with
   |.int _ n=>some (.int k (k.wrap n),H,.no)
   |_=>none
 |.U0 fn a b=>if Ew fn then none else some (.func fn (IM c env a) (IM c env b),H,.no)
 |.FA=>some (pQ H.length,H++[some []],.wr H.length [])
 |.Bs kt ok z x k=>match mapOf (ev c env x) with
   |some b=>match aJ H b with
     |some es=>if AW kt (ev c env k) (ev c env k)=some true then
       match iQ kt (ev c env k) es 0 with
       |some r=>some (mgv ok z r,H,.rd b)
       |none=>none
       else none
     |none=>none
   |none=>none
 |.CH kt x k v=>match mapOf (ev c env x) with
   |some b=>match aJ H b with
     |some es=>if AW kt (ev c env k) (ev c env k)=some true then
       match iQ kt (ev c env k) es 0 with
       |some r=>some (.undef,H.set b (some (CJ (ev c env k) (ev c env v) es r)),.wr H.length [b])
       |none=>none
       else none
     |none=>none
   |none=>none
 |.P6 k zs l cp=>match ev c env l,ev c env cp with
   |.int _ l,.int _ cp=>if 0<=l/\l<=cp/\cp<=(lU:Int) then some (.sl k H.length 0 l.toNat,H++[some (rep zs l.toNat)],.wr H.length []) else none
   |_,_=>none
 |.Fc k x lo hi=>match lenA (ev c env x) with
   |some n=>match EW c env n n hi with
     |some h=>match EW c env 0 h lo with
       |some l=>match ev c env x with
         |.du=>some (.du,H,.no)
         |.list k' xs=>if k'=k then some (.list k ((xs.take h).drop l),H,.no) else none
         |.sl k' b off _=>if k'=k then some (.sl k b (off+l*k) (h-l),H,.no) else none
         |_=>none
       |none=>none
     |none=>none
   |none=>none
 |.yf off x=>match ev c env x with
   |.ptr b o=>some (.ptr b (o+off),H,.no)
   |.dy cs=>some (.dy (cs.drop off),H,.no)
   |_=>none
 |.Na n x hi=>match EW c env n n hi with
   |some m=>match ev c env x with
     |.dy cs=>if n<=cs.length/\m=n/\bC (cs.take n)=true then some (.list 1 (cs.take n),H,.no) else none
     |.ptr b off=>match aJ H b with
       |some cs=>if off+n<=cs.length then some (.sl 1 b off m,H,.rd b) else none
       |none=>none
     |_=>none
   |none=>none
 |.fld off ag x=>match ev c env x with
   |.agg cs=>match Fj ag (cs.drop off) with
     |some v=>some (v,H,.no)
     |none=>none
   |_=>none
 |.qc k x i=>match ev c env x with
   |.list k' xs=>match idx (ev c env i) xs.length with
     |some j=>if k'=k then match xs[j]? with
       |some v=>some (.dy v.cells,H,.no)
       |none=>none
       else none
     |none=>none
   |.sl k' b off len=>match idx (ev c env i) len with
     |some j=>if k'=k then some (.ptr b (off+j*k),H,.no) else none
     |none=>none
   |_=>none
 |.Ic n k x i=>match idx (ev c env i) n with
   |some j=>match ev c env x with
     |.ptr b off=>some (.ptr b (off+j*k),H,.no)
     |.dy cs=>some (.dy (cs.drop (j*k)),H,.no)
     |_=>none
   |none=>none
 |.ix n k ag x i=>match idx (ev c env i) n with
   |some j=>match ev c env x with
     |.agg cs=>match Fj ag (cs.drop (j*k)) with
       |some v=>some (v,H,.no)
       |none=>none
     |_=>none
   |none=>none
 |.ixs tab i=>match idx (ev c env i) tab.length with
   |some j=>match tab[j]? with
     |some v=>some (.int .u8 v,H,.no)
     |none=>none
   |none=>none
 |.clr k zs x=>match ev c env x with
   |.du=>some (.undef,H,.wr H.length [])
   |.list _ []=>some (.undef,H,.wr H.length [])
   |.sl k' b off len=>if len=0 then some (.undef,H,.wr H.length []) else match aJ H b with
     |some cs=>if k'=k/\off+len*k<=cs.length then some (.undef,H.set b (some (j9 cs off (rep zs len))),.wr H.length [b]) else none
     |none=>none
   |_=>none
 |.ext i x=>match ev c env x with
   |.dt vs=>match vs[i]? with
     |some v=>some (v,H,.no)
     |none=>none
   |_=>none
 |.call f args=>Ab c call f (IM c env args) H
 |.jC x args=>match ev c env x with
   |.func (.func f) a b=>Ab c call f (a++IM c env args++b) H
   |_=>none
 |.len x=>match lenA (ev c env x) with
   |some n=>some (.int .i64 n,H,.no)
   |none=>none
 |.app k x y=>match jG H k (ev c env y) with
   |some (news,m)=>match ev c env x with
     |.du=>if m=0 then some (.du,H,.wr H.length []) else if m<=lU/\bC news=true then some (.sl k H.length 0 m,H++[some news],.wr H.length []) else none
     |.sl k' b 0 n=>match aJ H b with
       |some cs=>if k'=k/\n*k<=cs.length/\n+m<=lU/\bC news=true then some (.sl k H.length 0 (n+m),H.set b none++[some (cs.take (n*k)++news)],.wr H.length [b]) else none
       |none=>none
     |_=>none
   |none=>none
 |.min xs=>match Br false (IM c env xs) with
   |some v=>some (v,H,.no)
   |none=>none
 |.max xs=>match Br true (IM c env xs) with
   |some v=>some (v,H,.no)
   |none=>none
 |.copy k x y=>match jG H k (ev c env y) with
   |some (news,m)=>match ev c env x with
     |.du=>some (.int .i64 0,H,.wr H.length [])
     |.sl k' b off n=>match aJ H b with
       |some cs=>if k'=k/\off+n*k<=cs.length/\bC news=true then some (.int .i64 (min m n:Nat),H.set b (some (j9 cs off (news.take (min m n*k)))),.wr H.length [b]) else none
       |none=>none
     |_=>none
   |none=>none
 |.bad=>none

def resA (H:Heap) (env:Env):Rv->Option AV
 |.t i=>some (get env i)
 |.c i ag=>match get env i with
   |.ptr b off=>match aJ H b with
     |some cs=>Fj ag (cs.drop off)
     |none=>none
   |.dy cs=>Fj ag cs
   |_=>none
def Ru (H:Heap) (env:Env):List Rv->Option (List AV)
 |[]=>some []
 |r::rs=>match resA H env r,Ru H env rs with
   |some v,some vs=>some (v::vs)
   |_,_=>none
def qq:List AV->AV
 |[x]=>x
 |vs=>.dt vs

end Go.Am

/- How abstract values stand for values of the model in a world. -/
namespace Go.Am

abbrev dj:=List (Option (Nat × Nat))
def bQ (φ:dj) (g:Nat):Prop:=∃b sz:Nat,φ[b]?=some (some (g,sz))
def Rd (X:Nat->Prop) (φ:dj) (w:World) (a:Addr) (u:Value):Prop:=¬X a.block/\¬ bQ φ a.block/\w.cell? a=some u

inductive bO (R:Addr->Value->Prop):dj->AV->Value->Prop
 |any (φ:dj) (v:Value):bO R φ .any v
 |undef (φ:dj):bO R φ .undef (.tuple #[])
 |fN (φ:dj):bO R φ .fN (.pointer none)
 |fS (φ:dj):bO R φ .fS .nilFunc
 |du (φ:dj):bO R φ .du (.slice none 0 0)
 |int (φ:dj) (k:IntKind) (n:Int):bO R φ (.int k n) (.int k n)
 |bool (φ:dj) (b:Bool):bO R φ (.bool b) (.bool b)
 |str (φ:dj) (s:ByteArray):bO R φ (.str s) (.string s)
 |agg (φ:dj) (cs:List AV) (vs:Array Value) (hl:cs.length=vs.size) (h:∀(i:Nat) (c:AV) (v:Value),cs[i]?=some c->vs[i]?=some v->bO R φ c v):bO R φ (.agg cs) (.agg vs)
 |dt (φ:dj) (cs:List AV) (vs:Array Value) (hl:cs.length=vs.size) (h:∀(i:Nat) (c:AV) (v:Value),cs[i]?=some c->vs[i]?=some v->bO R φ c v):bO R φ (.dt cs) (.tuple vs)
 |func (φ:dj) (f:Fn) (as:List AV) (va:Array Value) (bs:List AV) (vb:Array Value) (hy:Ew f=false) (CW:as.length=va.size) (CV:bs.length=vb.size)
   (ha:∀(i:Nat) (c:AV) (v:Value),as[i]?=some c->va[i]?=some v->bO R φ c v) (hb:∀(i:Nat) (c:AV) (v:Value),bs[i]?=some c->vb[i]?=some v->bO R φ c v):bO R φ (.func f as bs) (.func f va vb)
 |yd (φ:dj) (k:Nat) (xs:List AV) (a:Addr) (n cap:Nat) (u:Nat->Nat->Value) (hn:n=xs.length) (iC:n<=cap) (hk:∀x∈xs,x.cells.length=k)
   (hu:∀(i j:Nat) (x c:AV),xs[i]?=some x->x.cells[j]?=some c->R (a.add (i*k+j)) (u i j))
   (h:∀(i j:Nat) (x c:AV),xs[i]?=some x->x.cells[j]?=some c->bO R [] c (u i j)):bO R φ (.list k xs) (.slice (some a) n cap)
 |lx (φ:dj) (k:Nat):bO R φ (.list k []) (.slice none 0 0)
 |dy (φ:dj) (cs:List AV) (a:Addr) (u:Nat->Value) (hu:∀(j:Nat) (c:AV),cs[j]?=some c->R (a.add j) (u j))
   (h:∀(j:Nat) (c:AV),cs[j]?=some c->bO R [] c (u j)):bO R φ (.dy cs) (.pointer (some a))
 |ptr (φ:dj) (b off:Nat) (a:Addr) (hb:b<φ.length) (h:∀g sz:Nat,φ[b]?=some (some (g,sz))->a=⟨g,off,none⟩/\0<sz):bO R φ (.ptr b off) (.pointer (some a))
 |sl (φ:dj) (k b off len:Nat) (a:Addr) (cap:Nat) (hb:b<φ.length) (hc:len<=cap)
   (h:∀g sz:Nat,φ[b]?=some (some (g,sz))->(0<cap->a=⟨g,off,none⟩)/\off+cap*k<sz):bO R φ (.sl k b off len) (.slice (some a) len cap)
 |CI (φ:dj) (b r:Nat) (hb:b<φ.length) (h:∀g sz:Nat,φ[b]?=some (some (g,sz))->r=g/\sz=0):bO R φ (.func (.yield 0) [] [.ptr b 0]) (.map (some r))

theorem bO.zW {R:Addr->Value->Prop} {φ:dj} {f:Fn} {as bs:List AV} {v:Value} (h:bO R φ (.func f as bs) v) :
  (Ew f=false/\∃ va vb,v=.func f va vb/\as.length=va.size/\bs.length=vb.size/\(∀(i:Nat) (c:AV) (v:Value),as[i]?=some c->va[i]?=some v->bO R φ c v)/\∀ (i:Nat) (c:AV) (v:Value),bs[i]?=some c->vb[i]?=some v->bO R φ c v) \/
  ∃ b r,f=.yield 0/\as=[]/\bs=[.ptr b 0]/\v=.map (some r)/\b<φ.length/\∀ g sz:Nat,φ[b]?=some (some (g,sz))->r=g/\sz=0:=by
 generalize hx:AV.func f as bs=x at h;cases h<;>cases hx
 case func hy CW ha CV hb=>exact .inl ⟨hy,_,_,rfl,CW,CV,ha,hb⟩
 case CI hb h=>exact .inr ⟨_,_,rfl,rfl,rfl,rfl,hb,h⟩
theorem bq {α:Type} {l:List α} {i:Nat} (h:i<l.length):∃x,l[i]?=some x:=⟨l[i],List.getElem?_eq_getElem h⟩
theorem bX {α:Type} {l:Array α} {i:Nat} (h:i<l.size):∃x,l[i]?=some x:=⟨l[i],mN h⟩
theorem ak {α:Type} {l:List α} {i:Nat} {x:α} (h:l[i]?=some x):i<l.length:=(List.getElem?_eq_some_iff.1 h).1
theorem nB {α:Type} {l:Array α} {i:Nat} {x:α} (h:l[i]?=some x):i<l.size:=(dV.1 h).1

structure An (φ φ':dj):Prop where
 len:φ.length<=φ'.length
 MQ:∀(b:Nat) (p:Nat × Nat),b<φ.length->φ'[b]?=some (some p)->φ[b]?=some (some p)
theorem An.refl (φ:dj):An φ φ:=⟨aO _,fun _ _ _ h=>h⟩
theorem An.trans {a b c:dj} (h:An a b) (k:An b c):An a c:=
 ⟨MG h.len k.len,fun i p hi hp=>h.MQ i p hi (k.MQ i p (eY hi h.len) hp)⟩

theorem bO.mono {R R':Addr->Value->Prop} (hR:∀a u,R a u->R' a u) {φ:dj} {x:AV} {v:Value} (h:bO R φ x v):∀{φ':dj},An φ φ'->bO R' φ' x v:=by
 induction h with
 |any=>intro φ' _; exact .any _ _
 |undef=>intro φ' _; exact .undef _
 |fN=>intro φ' _; exact .fN _
 |fS=>intro φ' _; exact .fS _
 |du=>intro φ' _; exact .du _
 |int=>intro φ' _; exact .int _ _ _
 |bool=>intro φ' _; exact .bool _ _
 |str=>intro φ' _; exact .str _ _
 |agg φ cs vs hl h ih=>intro φ' hp; exact .agg _ _ _ hl fun i c v h1 h2=>ih i c v h1 h2 hp
 |dt φ cs vs hl h ih=>intro φ' hp; exact .dt _ _ _ hl fun i c v h1 h2=>ih i c v h1 h2 hp
 |CI φ b r hb h=>intro φ' hp; exact .CI _ _ _ (eY hb hp.len) fun g sz hg=>h g sz (hp.MQ _ _ hb hg)
 |func φ f as va bs vb hy CW CV ha hb iha ihb=>intro φ' hp; exact .func _ _ _ _ _ _ hy CW CV (fun i c v h1 h2=>iha i c v h1 h2 hp) (fun i c v h1 h2=>ihb i c v h1 h2 hp)
 |yd φ k xs a n cap u hn iC hk hu h ih=>intro φ' _; exact .yd _ _ _ _ _ _ u hn iC hk (fun i j x c h1 h2=>hR _ _ (hu i j x c h1 h2)) (fun i j x c h1 h2=>ih i j x c h1 h2 (.refl _))
 |lx=>intro φ' _; exact .lx _ _
 |dy φ cs a u hu h ih=>intro φ' _; exact .dy _ _ _ u (fun j c h1=>hR _ _ (hu j c h1)) (fun j c h1=>ih j c h1 (.refl _))
 |ptr φ b off a hb h=>intro φ' hp; exact .ptr _ _ _ _ (eY hb hp.len) fun g sz hg=>h g sz (hp.MQ _ _ hb hg)
 |sl φ k b off len a cap hb hc h=>intro φ' hp; exact .sl _ _ _ _ _ _ _ (eY hb hp.len) hc fun g sz hg=>h g sz (hp.MQ _ _ hb hg)

theorem tn {cs:List AV} (h:tq cs=true):∀(i:Nat) (c:AV),cs[i]?=some c->c.plain=true:=by
 induction cs with
 |nil=>intro i c hc; simp at hc
 |cons x r ih=>
   simp only[tq,ae] at h;intro i c hc;cases i with
   |zero=>simp at hc; subst hc; exact h.1
   |succ i=>simp at hc; exact ih h.2 i c hc
theorem Ba {cs:List AV} (h:HX cs=true):∀(i:Nat) (c:AV),cs[i]?=some c->c.flat=true:=by
 induction cs with
 |nil=>intro i c hc; simp at hc
 |cons x r ih=>
   simp only[HX,ae] at h;intro i c hc;cases i with
   |zero=>simp at hc; subst hc; exact h.1
   |succ i=>simp at hc; exact ih h.2 i c hc
theorem qv {n:Nat} {cs:List AV} (h:qb n cs=true):∀(i:Nat) (c:AV),cs[i]?=some c->c.wy n=true:=by
 induction cs with
 |nil=>intro i c hc; simp at hc
 |cons x r ih=>
   simp only[qb,ae] at h;intro i c hc;cases i with
   |zero=>simp at hc; subst hc; exact h.1
   |succ i=>simp at hc; exact ih h.2 i c hc
theorem Aj {cs:List AV} (h:bC cs=true):∀(i:Nat) (c:AV),cs[i]?=some c->c.leaf=true:=by
 induction cs with
 |nil=>intro i c hc; simp at hc
 |cons x r ih=>
   simp only[bC,ae] at h;intro i c hc;cases i with
   |zero=>simp at hc; subst hc; exact h.1
   |succ i=>simp at hc; exact ih h.2 i c hc

theorem bO.dD {R:Addr->Value->Prop} {φ:dj} {x:AV} {v:Value} (h:bO R φ x v):x.plain=true->∀ψ,bO R ψ x v:=by
 induction h with
 |any=>intro _ ψ; exact .any _ _
 |undef=>intro _ ψ; exact .undef _
 |fN=>intro _ ψ; exact .fN _
 |fS=>intro _ ψ; exact .fS _
 |du=>intro _ ψ; exact .du _
 |int=>intro _ ψ; exact .int _ _ _
 |bool=>intro _ ψ; exact .bool _ _
 |str=>intro _ ψ; exact .str _ _
 |agg φ cs vs hl h ih=>intro hp ψ; simp only[AV.plain] at hp; exact .agg _ _ _ hl fun i c v h1 h2=>ih i c v h1 h2 (tn hp i c h1) ψ
 |dt φ cs vs hl h ih=>intro hp ψ; simp only[AV.plain] at hp; exact .dt _ _ _ hl fun i c v h1 h2=>ih i c v h1 h2 (tn hp i c h1) ψ
 |func φ f as va bs vb hy CW CV ha hb iha ihb=>
   intro hp ψ;simp only[AV.plain,ae] at hp;exact .func _ _ _ _ _ _ hy CW CV (fun i c v h1 h2=>iha i c v h1 h2 (tn hp.1 i c h1) ψ) (fun i c v h1 h2=>ihb i c v h1 h2 (tn hp.2 i c h1) ψ)
 |yd φ k xs a n cap u hn iC hk hu h ih=>intro _ ψ; exact .yd _ _ _ _ _ _ u hn iC hk hu h
 |lx=>intro _ ψ; exact .lx _ _
 |dy φ cs a u hu h ih=>intro _ ψ; exact .dy _ _ _ u hu h
 |ptr=>intro hp; simp[AV.plain] at hp
 |sl=>intro hp; simp[AV.plain] at hp
 |CI=>intro hp; simp[AV.plain,tq] at hp
theorem bO.of_flat {R:Addr->Value->Prop} {φ:dj} {x:AV} {v:Value} (h:bO R φ x v):x.flat=true->∀(R':Addr->Value->Prop) ψ,bO R' ψ x v:=by
 induction h with
 |any=>intro _ _ ψ; exact .any _ _
 |undef=>intro _ _ ψ; exact .undef _
 |fN=>intro _ _ ψ; exact .fN _
 |fS=>intro _ _ ψ; exact .fS _
 |du=>intro _ _ ψ; exact .du _
 |int=>intro _ _ ψ; exact .int _ _ _
 |bool=>intro _ _ ψ; exact .bool _ _
 |str=>intro _ _ ψ; exact .str _ _
 |agg φ cs vs hl h ih=>intro hp R' ψ; simp only[AV.flat] at hp; exact .agg _ _ _ hl fun i c v h1 h2=>ih i c v h1 h2 (Ba hp i c h1) R' ψ
 |dt φ cs vs hl h ih=>intro hp R' ψ; simp only[AV.flat] at hp; exact .dt _ _ _ hl fun i c v h1 h2=>ih i c v h1 h2 (Ba hp i c h1) R' ψ
 |func φ f as va bs vb hy CW CV ha hb iha ihb=>
   intro hp R' ψ;simp only[AV.flat,ae] at hp;exact .func _ _ _ _ _ _ hy CW CV (fun i c v h1 h2=>iha i c v h1 h2 (Ba hp.1 i c h1) R' ψ) (fun i c v h1 h2=>ihb i c v h1 h2 (Ba hp.2 i c h1) R' ψ)
 |yd=>intro hp; simp[AV.flat] at hp
 |lx=>intro hp; simp[AV.flat] at hp
 |dy=>intro hp; simp[AV.flat] at hp
 |ptr=>intro hp; simp[AV.flat] at hp
 |sl=>intro hp; simp[AV.flat] at hp
 |CI=>intro hp; simp[AV.flat,HX] at hp
theorem bO.take {R:Addr->Value->Prop} {φ:dj} {x:AV} {v:Value} {n:Nat} (h:bO R φ x v):x.wy n=true->bO R (φ.take n) x v:=by
 induction h with
 |any=>intro _; exact .any _ _
 |undef=>intro _; exact .undef _
 |fN=>intro _; exact .fN _
 |fS=>intro _; exact .fS _
 |du=>intro _; exact .du _
 |int=>intro _; exact .int _ _ _
 |bool=>intro _; exact .bool _ _
 |str=>intro _; exact .str _ _
 |agg φ cs vs hl h ih=>intro hp; simp only[AV.wy] at hp; exact .agg _ _ _ hl fun i c v h1 h2=>ih i c v h1 h2 (qv hp i c h1)
 |dt φ cs vs hl h ih=>intro hp; simp only[AV.wy] at hp; exact .dt _ _ _ hl fun i c v h1 h2=>ih i c v h1 h2 (qv hp i c h1)
 |func φ f as va bs vb hy CW CV ha hb iha ihb=>
   intro hp;simp only[AV.wy,ae] at hp;exact .func _ _ _ _ _ _ hy CW CV (fun i c v h1 h2=>iha i c v h1 h2 (qv hp.1 i c h1)) (fun i c v h1 h2=>ihb i c v h1 h2 (qv hp.2 i c h1))
 |yd φ k xs a n cap u hn iC hk hu h ih=>intro _; exact .yd _ _ _ _ _ _ u hn iC hk hu h
 |lx=>intro _; exact .lx _ _
 |dy φ cs a u hu h ih=>intro _; exact .dy _ _ _ u hu h
 |ptr φ b off a hb h=>
   intro hp;have TP:b<n:=by simpa[AV.wy] using hp
   refine .ptr _ _ _ _ (by rw[bw]; omega) fun g sz hg=>h g sz ?_;rw[aT TP] at hg;exact hg
 |sl φ k b off len a cap hb hc h=>
   intro hp;have TP:b<n:=by simpa[AV.wy] using hp
   refine .sl _ _ _ _ _ _ _ (by rw[bw]; omega) hc fun g sz hg=>h g sz ?_;rw[aT TP] at hg;exact hg
 |CI φ b r hb h=>
   intro hp;have TP:b<n:=by simpa[AV.wy,qb] using hp
   refine .CI _ _ _ (by rw[bw]; omega) fun g sz hg=>h g sz ?_;rw[aT TP] at hg;exact hg
theorem bO.uq {R:Addr->Value->Prop} {φ:dj} {x:AV} {v:Value} (h:bO R φ x v) (hl:x.leaf=true):v.oneCell'=true:=by
 cases h<;>first|rfl|simp[AV.leaf] at hl

theorem bO.cells {R:Addr->Value->Prop} {φ:dj} {x:AV} {v:Value} (h:bO R φ x v) (hs:bC x.cells=true) :
  x.cells.length=v.cells.size/\∀ (i:Nat) (c:AV),x.cells[i]?=some c->∃u,v.cells[i]?=some u/\bO R φ c u/\u.oneCell'=true:=by
 have one:∀{x:AV} {v:Value},x.cells=[x]->v.cells=#[v]->bO R φ x v->bC x.cells=true ->
   x.cells.length=v.cells.size/\∀ (i:Nat) (c:AV),x.cells[i]?=some c->∃u,v.cells[i]?=some u/\bO R φ c u/\u.oneCell'=true:=by
  intro x v hx hv h hs;rw[hx,hv];refine⟨rfl,fun i c hc=>?_⟩;cases i with
  |zero=>
    simp at hc; subst hc;refine⟨v,by simp,h,h.uq ?_⟩;rw[hx] at hs; simpa[bC] using hs
  |succ i=>simp at hc
 cases h with
 |any=>simp[AV.cells,bC,AV.leaf] at hs
 |agg φ cs vs hl h=>
   refine⟨hl,fun i c hc=>?_⟩;have hi:i<vs.size:=hl▸ak hc;obtain⟨u,hu⟩:=bX hi;exact⟨u,hu,h i c u hc hu,(h i c u hc hu).uq (Aj hs i c hc)⟩
 |_=>exact one rfl rfl (by first|exact .undef _|exact .fN _|exact .fS _|exact .du _|exact .int _ _ _|exact .bool _ _|exact .str _ _|exact .lx _ _|(constructor<;>assumption)) hs

def Vw (o:Obj) (sz:Nat) (arr:Array Value):Prop:=
 (∃e,o=.cells arr e (0,0)/\arr.size+1=sz)\/(∃es Vd,o=.map es Vd/\sz=0/\arr=es.map fun e=>.tuple #[e.key,e.val])
theorem Vw.cells {o:Obj} {sz:Nat} {arr:Array Value} (h:Vw o sz arr) (h0:0<sz):∃e,o=.cells arr e (0,0)/\arr.size+1=sz:=by
 rcases h with h|⟨_,_,_,h,_⟩
 ·exact h
 ·omega
theorem Vw.leaf {o:Obj} {sz:Nat} {arr:Array Value} (h:Vw o sz arr) {i:Nat} {u:Value} (hu:arr[i]?=some u) {R:Addr->Value->Prop} {φ:dj} {x:AV} (r:bO R φ x u) (hx:x.leaf=true):∃e,o=.cells arr e (0,0)/\arr.size+1=sz:=by
 rcases h with h|⟨es,_,_,_,rfl⟩
 ·exact h
 ·rw[tX] at hu;cases he:es[i]? with
  |none=>rw[he] at hu; cases hu
  |some e=>
    rw[he] at hu;simp only[cD,af] at hu;subst hu;cases r<;>simp[AV.leaf] at hx
structure cj (X:Nat->Prop) (φ:dj) (w:World) (H:Heap):Prop where
 len:φ.length=H.length
 Gg:∀g,X g->g<w.heap.size
 live:∀(b:Nat) (cs:List AV),H[b]?=some (some cs)->∃(g sz:Nat) (arr:Array Value) (o:Obj),φ[b]?=some (some (g,sz))/\w.heap[g]?=some o/\Vw o sz arr/\(cs.length<=arr.size/\(sz=0->cs.length=arr.size))/\¬ X g /\
  ∀ (i:Nat) (c:AV),cs[i]?=some c->∃u,arr[i]?=some u/\bO (Rd X φ w) φ c u
 dead:∀b:Nat,H[b]?=some none->φ[b]?=some none
 inj:∀b b' g sz pg:Nat,φ[b]?=some (some (g,sz))->φ[b']?=some (some (g,pg))->b=b'

structure fg (φ:dj) (w:World) (φ':dj) (w':World):Prop where
 os:w'.os=w.os
 tape:w'.tape=w.tape
 output:w'.output=w.output
 drawn:w.drawn<=w'.drawn
 size:w.heap.size<=w'.heap.size
 keep:∀g,g<w.heap.size->¬bQ φ g->w'.heap[g]?=w.heap[g]?/\¬ bQ φ' g
 ZM:An φ φ'
theorem fg.refl (φ:dj) (w:World):fg φ w φ w:=⟨rfl,rfl,rfl,aO _,aO _,fun _ _ h=>⟨rfl,h⟩,.refl _⟩
theorem fg.trans {φ φ' qY:dj} {w w' w'':World} (h:fg φ w φ' w') (k:fg φ' w' qY w''):fg φ w qY w'':=
 ⟨k.os.trans h.os,k.tape.trans h.tape,k.output.trans h.output,MG h.drawn k.drawn,MG h.size k.size,
  fun g hg ho=>⟨(k.keep g (eY hg h.size) (h.keep g hg ho).2).1.trans (h.keep g hg ho).1,(k.keep g (eY hg h.size) (h.keep g hg ho).2).2⟩,h.ZM.trans k.ZM⟩
theorem fg.rd {X:Nat->Prop} {φ φ':dj} {w w':World} (h:fg φ w φ' w'):∀a u,Rd X φ w a u->Rd X φ' w' a u:=by
 intro a u ⟨h1,h2,h3⟩;have bF:=World.block_lt_of_cell? w a h3;exact⟨h1,(h.keep _ bF h2).2,(World.cell?_of_block (h.keep _ bF h2).1).trans h3⟩
theorem fg.rep {X:Nat->Prop} {φ φ':dj} {w w':World} (h:fg φ w φ' w') {x:AV} {v:Value} (r:bO (Rd X φ w) φ x v):bO (Rd X φ' w') φ' x v:=r.mono h.rd h.ZM
theorem fg.drew (φ:dj) (w:World):fg φ w φ w.drew:=⟨rfl,rfl,rfl,Nat.le_succ _,aO _,fun _ _ h=>⟨rfl,h⟩,.refl _⟩

def qR (X:Nat->Prop) (φ:dj) (w:World) (env:Env) (tmps:Array Value):Prop:=∀i,bO (Rd X φ w) φ (get env i) (tmps.getD i undef)
theorem bN (env:Env) (d:Nat) (v:AV) (i:Nat):get (put env d v) i=if i=d then v else get env i:=by
 induction env with
 |nil=>by_cases h:i=d<;>simp[put,get,h]
 |cons p r ih=>
   obtain⟨j,u⟩:=p;unfold put;split
   ·by_cases h:i=d<;>simp[get,h]
   ·split
    ·rename_i h1 h2;subst h2;by_cases h:i=d<;>simp[get,h]
    ·rename_i h1 h2;simp only[get,ih];by_cases h:i=j
     ·subst h; simp[Ne.symm h2]
     ·simp[h]
theorem qR.put {X:Nat->Prop} {φ:dj} {w:World} {env:Env} {tmps:Array Value} (h:qR X φ w env tmps) {d:Nat} (hd:d<tmps.size) {x:AV} {v:Value} (r:bO (Rd X φ w) φ x v) :
  qR X φ w (put env d x) (tmps.setIfInBounds d v):=by
 intro i;rw[bN];by_cases hi:i=d
 ·subst hi;simp[hd,r]
 ·have:=h i;simpa[hi,Array.getElem?_setIfInBounds_ne (Ne.symm hi)] using this
theorem qR.nZ {X:Nat->Prop} {φ φ':dj} {w w':World} {env:Env} {tmps:Array Value} (h:qR X φ w env tmps) (k:fg φ w φ' w'):qR X φ' w' env tmps:=fun i=>k.rep (h i)

theorem Addr.add_add (a:Addr) (n m:Nat):(a.add n).add m=a.add (n+m):=by
 unfold Addr.add;by_cases hn:n=0
 ·subst hn; simp
 ·by_cases hm:m=0
  ·subst hm; simp[hn]
  ·simp[hn,hm,Nat.add_assoc]
theorem Addr.ju (g o n:Nat):Addr.add ⟨g,o,none⟩ n=⟨g,o+n,none⟩:=Addr.add_lit g o n
end Go.Am

/- The heap relation under the steps of the machine; freezing. -/
namespace Go.Am

theorem tR {H:Heap} {b:Nat} {cs:List AV} (h:aJ H b=some cs):H[b]?=some (some cs):=by
 unfold aJ at h;split at h
 ·rename_i h'; rw[h']; simpa using h
 ·cases h
theorem cj.at {X:Nat->Prop} {φ:dj} {w:World} {H:Heap} (h:cj X φ w H) {b:Nat} {cs:List AV} (hb:aJ H b=some cs) :
  ∃ (g sz:Nat) (arr:Array Value) (o:Obj),φ[b]?=some (some (g,sz))/\w.heap[g]?=some o/\Vw o sz arr/\(cs.length<=arr.size/\(sz=0->cs.length=arr.size))/\¬ X g /\
   ∀ (i:Nat) (c:AV),cs[i]?=some c->∃u,arr[i]?=some u/\bO (Rd X φ w) φ c u:=h.live b cs (tR hb)
theorem cj.cat {X:Nat->Prop} {φ:dj} {w:World} {H:Heap} (h:cj X φ w H) {b:Nat} {cs:List AV} (hb:aJ H b=some cs) (hs:∀g sz:Nat,φ[b]?=some (some (g,sz))->0<sz) :
  ∃ (g sz:Nat) (arr:Array Value) (e:TypeId),φ[b]?=some (some (g,sz))/\w.heap[g]?=some (.cells arr e (0,0))/\arr.size+1=sz/\cs.length<=arr.size/\¬ X g /\
   ∀ (i:Nat) (c:AV),cs[i]?=some c->∃u,arr[i]?=some u/\bO (Rd X φ w) φ c u:=by
 obtain⟨g,sz,arr,o,h1,h2,h3,h4,h5,h6⟩:=h.at hb;obtain⟨e,rfl,h7⟩:=h3.cells (hs g sz h1);exact⟨g,sz,arr,e,h1,h2,h7,h4.1,h5,h6⟩

theorem bQ.nil (g:Nat):¬bQ [] g:=fun⟨b,sz,h⟩=>by simp at h
theorem sM {φ:dj} {p:Nat × Nat} {g:Nat} (h:bQ (φ++[some p]) g):bQ φ g\/g=p.1:=by
 obtain⟨b,sz,hb⟩:=h;by_cases bF:b<φ.length
 ·rw[aq bF] at hb;exact .inl ⟨b,sz,hb⟩
 ·rw[aM (by omega)] at hb
  have h0:b-φ.length=0:=by
   have:=ak hb;simp at this; omega
  rw[h0] at hb;simp at hb;right; rw[hb]
theorem vH {φ:dj} {b g:Nat} (h:bQ (φ.set b none) g):bQ φ g:=by
 obtain⟨c,sz,hc⟩:=h;refine⟨c,sz,?_⟩;rw[aR] at hc;split at hc
 ·split at hc<;>simp at hc
 ·exact hc

theorem fg.of_same {φ:dj} {w w':World} {ψ:dj} (h:fg [] w ψ w'):fg φ w φ w':=
 ⟨h.os,h.tape,h.output,h.drawn,h.size,fun g hg ho=>⟨(h.keep g hg (bQ.nil g)).1,ho⟩,.refl _⟩
theorem cj.of_same {X:Nat->Prop} {φ:dj} {w w':World} {H:Heap} {ψ:dj} (h:cj X φ w H) (a:fg [] w ψ w'):cj X φ w' H:=by
 have k:fg φ w φ w':=fg.of_same a;refine⟨h.len,fun g hg=>eY (h.Gg g hg) a.size,fun b cs hb=>?_,h.dead,h.inj⟩;obtain⟨g,sz,arr,e,h1,h2,h3,h4,h5,h6⟩:=h.live b cs hb;refine⟨g,sz,arr,e,h1,?_,h3,h4,h5,fun i c hc=>?_⟩
 ·rw[(a.keep g (dV.1 h2).1 (bQ.nil g)).1]; exact h2
 ·obtain⟨u,hu,r⟩:=h6 i c hc;exact⟨u,hu,k.rep r⟩

theorem cj.afI {X:Nat->Prop} {φ:dj} {w w':World} {H:Heap} (h:cj X φ w H) {o:Obj} {sJ:Nat} {arr:Array Value} (hV:Vw o sJ arr) (hw:w'.heap=w.heap.push o)
  (ho:w'.os=w.os) (ht:w'.tape=w.tape) (hp:w'.output=w.output) {cs:List AV} (hl:cs.length<=arr.size/\(sJ=0->cs.length=arr.size))
  (hc:∀(i:Nat) (c:AV),cs[i]?=some c->∃u,arr[i]?=some u/\bO (Rd X φ w) φ c u) (hd:w.drawn<=w'.drawn) :
  cj X (φ++[some (w.heap.size,sJ)]) w' (H++[some cs])/\fg φ w (φ++[some (w.heap.size,sJ)]) w':=by
 have own:∀g,bQ φ g->g<w.heap.size:=by
  intro g ⟨b,sz,hb⟩;have bF:b<H.length:=h.len▸ak hb;obtain⟨x,hx⟩:=bq bF;cases x with
  |none=>rw[h.dead b hx] at hb; simp at hb
  |some cs=>
    obtain⟨g',pg,arr,e,h1,h2,_⟩:=h.live b cs hx;rw[h1] at hb;simp at hb;rw[<-hb.1];exact (dV.1 h2).1
 have a:fg φ w (φ++[some (w.heap.size,sJ)]) w':=by
  refine⟨ho,ht,hp,hd,by rw[hw]; simp,fun g hg hn=>⟨?_,?_⟩,⟨by simp,fun b p hb hp=>?_⟩⟩
  ·rw[hw,B6,if_neg (by omega)]
  ·intro ho;rcases sM ho with h1|h1
   ·exact hn h1
   ·simp at h1; omega
  ·rwa [aq hb] at hp
 refine⟨⟨by simp[h.len],fun g hg=>?_,fun b ds hb=>?_,fun b hb=>?_,fun b b' g sz pg h1 h2=>?_⟩,a⟩
 ·rw[hw]; have:=h.Gg g hg; simp; omega
 ·by_cases bF:b<H.length
  ·rw[aq bF] at hb;obtain⟨g,sz,ar,e',h1,h2,h3,h4,h5,h6⟩:=h.live b ds hb;refine⟨g,sz,ar,e',by rw[aq (by rw[h.len]; exact bF)]; exact h1,?_,h3,h4,h5,fun i c hc=>?_⟩
   ·rw[hw,B6,if_neg (by have:=(dV.1 h2).1; omega)]; exact h2
   ·obtain⟨u,hu,r⟩:=h6 i c hc;exact⟨u,hu,a.rep r⟩
  ·have iE:=ak hb;simp at iE;have Lr:b=H.length:=by omega
   subst Lr;simp at hb;subst hb;refine⟨w.heap.size,sJ,arr,o,by rw[<-h.len]; simp,by rw[hw]; simp,hV,hl,fun hx=>by have:=h.Gg _ hx; omega,fun i c hi=>?_⟩;obtain⟨u,hu,r⟩:=hc i c hi;exact⟨u,hu,a.rep r⟩
 ·by_cases bF:b<H.length
  ·rw[aq bF] at hb;rw[aq (by rw[h.len]; exact bF)];exact h.dead b hb
  ·have iE:=ak hb;simp at iE;have Lr:b=H.length:=by omega
   subst Lr;simp at hb
 ·have new:∀(b g sz:Nat),(φ++[some (w.heap.size,sJ)])[b]?=some (some (g,sz))->(b<φ.length/\φ[b]?=some (some (g,sz))/\g<w.heap.size)\/(b=φ.length/\g=w.heap.size):=by
   intro b g sz hb;by_cases bF:b<φ.length
   ·rw[aq bF] at hb;exact .inl ⟨bF,hb,own g ⟨b,sz,hb⟩⟩
   ·have iE:=ak hb;simp at iE;have Lr:b=φ.length:=by omega
    subst Lr;simp at hb;exact .inr ⟨rfl,hb.1.symm⟩
  rcases new b g sz h1 with⟨l1,e1,g1⟩|⟨l1,g1⟩<;>rcases new b' g pg h2 with⟨l2,e2,g2⟩|⟨l2,g2⟩
  ·exact h.inj b b' g sz pg e1 e2
  ·omega
  ·omega
  ·omega

theorem cj.alloc {X:Nat->Prop} {φ:dj} {w w':World} {H:Heap} (h:cj X φ w H) {arr:Array Value} {e:TypeId} (hw:w'.heap=w.heap.push (.cells arr e (0,0)))
  (ho:w'.os=w.os) (ht:w'.tape=w.tape) (hp:w'.output=w.output) {cs:List AV} (hl:cs.length<=arr.size)
  (hc:∀(i:Nat) (c:AV),cs[i]?=some c->∃u,arr[i]?=some u/\bO (Rd X φ w) φ c u) (hd:w.drawn<=w'.drawn) :
  cj X (φ++[some (w.heap.size,arr.size+1)]) w' (H++[some cs])/\fg φ w (φ++[some (w.heap.size,arr.size+1)]) w':=
 h.afI (.inl ⟨e,rfl,rfl⟩) hw ho ht hp ⟨hl,fun z=>by omega⟩ hc hd
theorem cj.alC {X:Nat->Prop} {φ:dj} {w w':World} {H:Heap} (h:cj X φ w H) (hw:w'.heap=w.heap.push (.map #[] 0))
  (ho:w'.os=w.os) (ht:w'.tape=w.tape) (hp:w'.output=w.output) (hd:w.drawn<=w'.drawn) :
  cj X (φ++[some (w.heap.size,0)]) w' (H++[some []])/\fg φ w (φ++[some (w.heap.size,0)]) w':=
 h.afI (arr:=#[]) (.inr ⟨#[],0,rfl,rfl,by simp⟩) hw ho ht hp ⟨aO _,fun _=>rfl⟩ (fun i c hi=>by simp at hi) hd

theorem cj.store {X:Nat->Prop} {φ:dj} {w w':World} {H:Heap} (h:cj X φ w H) {b g sz:Nat} {arr arr':Array Value} {e:TypeId} {cs':List AV}
  (jK:φ[b]?=some (some (g,sz))) (hg:w.heap[g]?=some (.cells arr e (0,0))) (oV:arr.size+1=sz) (hs:arr'.size=arr.size) (hw:w'=w.setRow g arr') (hX:¬X g)
  (hl:cs'.length<=arr'.size) (hc:∀(i:Nat) (c:AV),cs'[i]?=some c->∃u,arr'[i]?=some u/\bO (Rd X φ w) φ c u) :
  cj X φ w' (H.set b (some cs'))/\fg φ w φ w':=by
 subst hw;have a:fg φ w φ (w.setRow g arr'):=⟨rfl,rfl,rfl,aO _,by simp,fun k _ ho=>⟨setRow_other w g k _ (fun e=>ho ⟨b,sz,e▸jK⟩),ho⟩,.refl _⟩;refine⟨⟨by simp[h.len],fun k hk=>by simpa using h.Gg k hk,fun c ds hb=>?_,fun c hb=>?_,h.inj⟩,a⟩
 ·rw[aR] at hb;split at hb
  ·rename_i HQ;subst HQ;split at hb
   ·simp at hb;subst hb;refine⟨g,sz,arr',_,jK,setRow_heap w g arr arr' e _ hg,.inl ⟨e,rfl,by omega⟩,⟨by omega,fun z=>by omega⟩,hX,fun i c hi=>?_⟩;obtain⟨u,hu,r⟩:=hc i c hi;exact⟨u,hu,a.rep r⟩
   ·simp at hb
  ·rename_i HQ;obtain⟨g',pg,ar,e',h1,h2,h3,h4,h5,h6⟩:=h.live c ds hb;refine⟨g',pg,ar,e',h1,?_,h3,h4,h5,fun i c hi=>?_⟩
   ·rw[setRow_other w g g' _ (fun eq=>HQ (h.inj b c g sz pg jK (eq▸h1)))]; exact h2
   ·obtain⟨u,hu,r⟩:=h6 i c hi;exact⟨u,hu,a.rep r⟩
 ·rw[aR] at hb;split at hb
  ·split at hb<;>simp at hb
  ·exact h.dead c hb

theorem cj.acn {X:Nat->Prop} {φ:dj} {w w':World} {H:Heap} (h:cj X φ w H) {b g:Nat} {es':Array MapEntry} {clk':Nat} {cs':List AV}
  (jK:φ[b]?=some (some (g,0))) (hw1:w'.heap[g]?=some (.map es' clk')) (U5:∀k,k≠g->w'.heap[k]?=w.heap[k]?) (oV:w'.heap.size=w.heap.size)
  (ho:w'.os=w.os) (ht:w'.tape=w.tape) (hp:w'.output=w.output) (hd:w.drawn<=w'.drawn) (hX:¬X g)
  (hl:cs'.length=es'.size) (hc:∀(i:Nat) (c:AV),cs'[i]?=some c->∃u,(es'.map fun e=>Value.tuple #[e.key,e.val])[i]?=some u/\bO (Rd X φ w) φ c u) :
  cj X φ w' (H.set b (some cs'))/\fg φ w φ w':=by
 have a:fg φ w φ w':=⟨ho,ht,hp,hd,by omega,fun k _ hk=>⟨U5 k (fun e=>hk ⟨b,0,e▸jK⟩),hk⟩,.refl _⟩;refine⟨⟨by simp[h.len],fun k hk=>by rw[oV]; exact h.Gg k hk,fun c ds hb=>?_,fun c hb=>?_,h.inj⟩,a⟩
 ·rw[aR] at hb;split at hb
  ·rename_i HQ;subst HQ;split at hb
   ·simp at hb;subst hb;refine⟨g,0,_,_,jK,hw1,.inr ⟨es',clk',rfl,rfl,rfl⟩,⟨by simp[hl],fun z=>by simp[hl]⟩,hX,fun i c hi=>?_⟩;obtain⟨u,hu,r⟩:=hc i c hi;exact⟨u,hu,a.rep r⟩
   ·simp at hb
  ·rename_i HQ;obtain⟨g',pg,ar,e',h1,h2,h3,h4,h5,h6⟩:=h.live c ds hb;refine⟨g',pg,ar,e',h1,?_,h3,h4,h5,fun i c hi=>?_⟩
   ·rw[U5 g' (fun eq=>HQ (h.inj b c g 0 pg jK (eq▸h1)))]; exact h2
   ·obtain⟨u,hu,r⟩:=h6 i c hi;exact⟨u,hu,a.rep r⟩
 ·rw[aR] at hb;split at hb
  ·split at hb<;>simp at hb
  ·exact h.dead c hb

theorem cj.aeA {X:Nat->Prop} {φ:dj} {w:World} {H:Heap} (h:cj X φ w H) (b:Nat):cj X (φ.set b none) w (H.set b none)/\fg φ w (φ.set b none) w:=by
 have a:fg φ w (φ.set b none) w:=by
  refine⟨rfl,rfl,rfl,aO _,aO _,fun g _ ho=>⟨rfl,fun hx=>ho (vH hx)⟩,⟨by simp,fun c p hc hp=>?_⟩⟩;rw[aR] at hp;split at hp
  ·split at hp<;>simp at hp
  ·exact hp
 refine⟨⟨by simp[h.len],h.Gg,fun c ds hb=>?_,fun c hb=>?_,fun c c' g sz pg h1 h2=>?_⟩,a⟩
 ·rw[aR] at hb;split at hb
  ·split at hb<;>simp at hb
  ·rename_i HQ;obtain⟨g',pg,ar,e',h1,h2,h3,h4,h5,h6⟩:=h.live c ds hb;refine⟨g',pg,ar,e',?_,h2,h3,h4,h5,fun i c hi=>?_⟩
   ·rw[aR,if_neg HQ]; exact h1
   ·obtain⟨u,hu,r⟩:=h6 i c hi;exact⟨u,hu,a.rep r⟩
 ·rw[aR] at hb ⊢;split at hb
  ·rename_i HQ;rw[if_pos HQ];split at hb
   ·rename_i bF;rw[if_pos (by rw[h.len]; exact bF)]
   ·simp at hb
  ·rename_i HQ;rw[if_neg HQ];exact h.dead c hb
 ·have un:∀(c g sz:Nat),(φ.set b none)[c]?=some (some (g,sz))->φ[c]?=some (some (g,sz)):=by
   intro c g sz hc;rw[aR] at hc;split at hc
   ·split at hc<;>simp at hc
   ·exact hc
  exact h.inj c c' g sz pg (un c g sz h1) (un c' g pg h2)
def Ty:dj->List Nat->dj
 |φ,[]=>φ
 |φ,b::r=>Ty (φ.set b none) r
theorem cj.kill {X:Nat->Prop} {w:World}:∀(bs:List Nat) {φ:dj} {H:Heap},cj X φ w H->cj X (Ty φ bs) w (kill H bs)/\fg φ w (Ty φ bs) w
 |[],φ,H,h=>⟨h,.refl _ _⟩
 |b::r,φ,H,h=>by
   obtain⟨h1,a1⟩:=h.aeA b;obtain⟨h2,a2⟩:=cj.kill r h1;exact⟨h2,a1.trans a2⟩
theorem Ox:∀(bs:List Nat) (φ:dj) (c:Nat) (p:Nat × Nat),(Ty φ bs)[c]?=some (some p)->φ[c]?=some (some p)/\c∉bs
 |[],φ,c,p,h=>⟨h,by simp⟩
 |b::r,φ,c,p,h=>by
   obtain⟨h1,h2⟩:=Ox r (φ.set b none) c p h;rw[aR] at h1;split at h1
   ·split at h1<;>simp at h1
   ·rename_i HQ;exact⟨h1,by simp[h2]; exact fun e=>HQ e.symm⟩

theorem cj.move {X:Nat->Prop} {φ:dj} {w w':World} {H:Heap} (h:cj X φ w H) {b g sz:Nat} {arr arr':Array Value} {e:TypeId} {cs':List AV}
  (jK:φ[b]?=some (some (g,sz))) (hg:w.heap[g]?=some (.cells arr e (0,0))) (oV:arr.size+1=sz) (hs:arr'.size=arr.size) (hw:w'=w.setRow g arr') (hX:¬X g)
  (hl:cs'.length<=arr'.size) (hc:∀(i:Nat) (c:AV),cs'[i]?=some c->∃u,arr'[i]?=some u/\bO (Rd X φ w) φ c u) :
  cj X (φ.set b none++[some (g,sz)]) w' (H.set b none++[some cs'])/\fg φ w (φ.set b none++[some (g,sz)]) w':=by
 subst hw;have hbl:b<φ.length:=ak jK
 have look:∀(c:Nat) (p:Nat × Nat),(φ.set b none++[some (g,sz)])[c]?=some (some p)->(c<φ.length/\c≠b/\φ[c]?=some (some p))\/(c=φ.length/\p=(g,sz)):=by
  intro c p hc;by_cases bF:c<φ.length
  ·rw[aq (by simpa using bF),aR] at hc;split at hc
   ·simp_all
   ·rename_i HQ; exact .inl ⟨bF,fun e=>HQ e.symm,hc⟩
  ·have iE:=ak hc;simp at iE;have Lr:c=φ.length:=by omega
   subst Lr;rw[aM (by simp)] at hc;simp at hc;exact .inr ⟨rfl,hc.symm⟩
 have a:fg φ w (φ.set b none++[some (g,sz)]) (w.setRow g arr'):=by
  refine⟨rfl,rfl,rfl,aO _,by simp,fun k _ ho=>⟨setRow_other w g k _ (fun e=>ho ⟨b,sz,e▸jK⟩),?_⟩,⟨by simp,fun c p hc hp=>?_⟩⟩
  ·intro⟨c,s,hc⟩;rcases look c _ hc with⟨_,_,h1⟩|⟨_,h1⟩
   ·exact ho ⟨c,s,h1⟩
   ·simp at h1; exact ho ⟨b,sz,h1.1▸jK⟩
  ·rcases look c p hp with⟨_,_,h1⟩|⟨h1,_⟩
   ·exact h1
   ·omega
 refine⟨⟨by simp[h.len],fun k hk=>by simpa using h.Gg k hk,fun c ds hb=>?_,fun c hb=>?_,fun c c' k s s' h1 h2=>?_⟩,a⟩
 ·by_cases bF:c<H.length
  ·rw[aq (by simpa using bF),aR] at hb;split at hb
   ·split at hb<;>simp at hb
   ·rename_i HQ;obtain⟨g',pg,ar,e',h1,h2,h3,h4,h5,h6⟩:=h.live c ds hb;refine⟨g',pg,ar,e',?_,?_,h3,h4,h5,fun i c hi=>?_⟩
    ·rw[aq (by simp[h.len,bF]),aR,if_neg HQ]; exact h1
    ·rw[setRow_other w g g' _ (fun eq=>HQ (h.inj b c g sz pg jK (eq▸h1)))]; exact h2
    ·obtain⟨u,hu,r⟩:=h6 i c hi;exact⟨u,hu,a.rep r⟩
  ·have iE:=ak hb;simp at iE;have Lr:c=H.length:=by omega
   subst Lr;rw[aM (by simp)] at hb;simp at hb;subst hb;refine⟨g,sz,arr',_,?_,setRow_heap w g arr arr' e _ hg,.inl ⟨e,rfl,by omega⟩,⟨by omega,fun z=>by omega⟩,hX,fun i c hi=>?_⟩
   ·rw[aM (by simp[h.len])]; simp[h.len]
   ·obtain⟨u,hu,r⟩:=hc i c hi;exact⟨u,hu,a.rep r⟩
 ·by_cases bF:c<H.length
  ·rw[aq (by simpa using bF),aR] at hb;rw[aq (by simp[h.len,bF]),aR];split at hb
   ·rename_i HQ;rw[if_pos HQ,if_pos (by omega)]
   ·rename_i HQ;rw[if_neg HQ]; exact h.dead c hb
  ·have iE:=ak hb;simp at iE;have Lr:c=H.length:=by omega
   subst Lr;rw[aM (by simp)] at hb;simp at hb
 ·rcases look c _ h1 with⟨l1,n1,e1⟩|⟨l1,e1⟩<;>rcases look c' _ h2 with⟨l2,n2,e2⟩|⟨l2,e2⟩
  ·exact h.inj c c' k s s' e1 e2
  ·simp at e2; exact absurd (h.inj c b k s sz e1 (e2.1▸jK)) n1
  ·simp at e1; exact absurd (h.inj c' b k s' sz e2 (e1.1▸jK)) n2
  ·omega

theorem CX {n:Nat}:∀{H:Heap},CY n H=true->∀(b:Nat) (cs:List AV),H[b]?=some (some cs)->qb n cs=true
 |[],_,b,cs,hb=>by simp at hb
 |none::r,h,b,cs,hb=>by
   cases b with
   |zero=>simp at hb
   |succ b=>simp at hb; exact CX (H:=r) (by simpa[CY] using h) b cs hb
 |some ds::r,h,b,cs,hb=>by
   simp only[CY,ae] at h;cases b with
   |zero=>simp at hb; subst hb; exact h.1
   |succ b=>simp at hb; exact CX (H:=r) h.2 b cs hb
theorem Ky {φ:dj} {n g:Nat} (h:bQ (φ.take n) g):bQ φ g:=by
 obtain⟨b,sz,hb⟩:=h;rw[bP] at hb;split at hb
 ·exact⟨b,sz,hb⟩
 ·simp at hb
theorem X0 {X:Nat->Prop} {φ:dj} {w:World} {n:Nat}:∀a u,Rd X φ w a u->Rd X (φ.take n) w a u:=fun _ _ ⟨h1,h2,h3⟩=>⟨h1,fun h=>h2 (Ky h),h3⟩
theorem cj.take {X:Nat->Prop} {φ:dj} {w:World} {H:Heap} (h:cj X φ w H) {n:Nat} (hn:n<=H.length) (dm:CY n (H.take n)=true):cj X (φ.take n) w (H.take n):=by
 refine⟨by simp[h.len],h.Gg,fun b cs hb=>?_,fun b hb=>?_,fun b b' g sz pg h1 h2=>?_⟩
 ·have hr:=CX dm b cs hb;have bF:b<n:=by have:=ak hb; simp at this; omega
  rw[aT bF] at hb;obtain⟨g,sz,ar,e,h1,h2,h3,h4,h5,h6⟩:=h.live b cs hb;refine⟨g,sz,ar,e,by rw[aT bF]; exact h1,h2,h3,h4,h5,fun i c hi=>?_⟩;obtain⟨u,hu,r⟩:=h6 i c hi;exact⟨u,hu,(r.take (qv hr i c hi)).mono X0 (.refl _)⟩
 ·have bF:b<n:=by have:=ak hb; simp at this; omega
  rw[aT bF] at hb ⊢;exact h.dead b hb
 ·rw[bP] at h1 h2;split at h1<;>split at h2<;>first|exact h.inj b b' g sz pg h1 h2|(first|simp at h1|simp at h2)
theorem fg.take {φ φ':dj} {w w':World} (h:fg φ w φ' w'):fg φ w (φ'.take φ.length) w':=
 ⟨h.os,h.tape,h.output,h.drawn,h.size,fun g hg ho=>⟨(h.keep g hg ho).1,fun hx=>(h.keep g hg ho).2 (Ky hx)⟩,
  ⟨by rw[bw]; have:=h.ZM.len; omega,fun b p hb hp=>h.ZM.MQ b p hb (by rwa [aT hb] at hp)⟩⟩

/-! Freezing -/
theorem vP {f:AV->Option (AV × List Nat)}:∀{xs ys:List AV} {bs:List Nat},FC f xs=some (ys,bs) ->
  ys.length=xs.length/\∀ (i:Nat) (x:AV),xs[i]?=some x->∃y b,f x=some (y,b)/\ys[i]?=some y/\∀ c∈b,c∈bs
 |[],ys,bs,h=>by simp[FC] at h; obtain⟨rfl,rfl⟩:=h; exact⟨rfl,fun i x hx=>by simp at hx⟩
 |x::r,ys,bs,h=>by
   simp only[FC] at h;split at h
   ·rename_i y b Df bs' h1 h2;simp at h;obtain⟨rfl,rfl⟩:=h;obtain⟨hl,hm⟩:=vP h2;refine⟨by simp[hl],fun i z hz=>?_⟩;cases i with
    |zero=>simp at hz; subst hz; exact⟨y,b,h1,by simp,fun c hc=>by simp[hc]⟩
    |succ i=>
      simp at hz;obtain⟨y',b',e1,e2,e3⟩:=hm i z hz;exact⟨y',b',e1,by simpa using e2,fun c hc=>by simp[e3 c hc]⟩
   ·cases h
theorem vU (l:List AV):(el l).cells=l:=by
 unfold el;split<;>first|rfl|skip
 rename_i x hx;cases x<;>first|rfl|(exact absurd rfl (hx _))
theorem Lu (k:Nat):∀(n:Nat) (ys:List AV),n*k<=ys.length->(E7 k n ys).length=n/\∀ (i:Nat) (x:AV),(E7 k n ys)[i]?=some x->x.cells=(ys.drop (i*k)).take k/\i<n
 |0,ys,_=>⟨rfl,fun i x hx=>by simp[E7] at hx⟩
 |n+1,ys,h=>by
   have h':n*k<=(ys.drop k).length:=by rw[eQ]; rw[cK] at h; omega
   obtain⟨hl,hm⟩:=Lu k n (ys.drop k) h';refine⟨by simp[E7,hl],fun i x hx=>?_⟩;cases i with
   |zero=>simp[E7] at hx; subst hx; rw[vU]; simp
   |succ i=>
     simp[E7] at hx;obtain⟨e1,e2⟩:=hm i x hx;refine⟨?_,by omega⟩;rw[e1,List.drop_drop];congr 2;rw[cK]; omega
theorem gg {w:World} {g:Nat} {arr:Array Value} {e:TypeId} {fr:Nat × Nat} (h:w.heap[g]?=some (.cells arr e fr)) (o:Nat):w.cell? ⟨g,o,none⟩=arr[o]?:=cell_of_row w g o arr e fr h

theorem IL {X:Nat->Prop} {φ:dj} {w:World} {H:Heap} (h:cj X φ w H) {R:Addr->Value->Prop} (hR:∀a u,Rd X φ w a u->R a u) :
  ∀ (n:Nat) (x y:AV) (v:Value) (bs:List Nat),F0 H n x=some (y,bs) ->
   (∀b∈bs,∀g sz:Nat,φ[b]?=some (some (g,sz))->∀o u,w.cell? ⟨g,o,none⟩=some u->R ⟨g,o,none⟩ u)->bO (Rd X φ w) φ x v->bO R [] y v
 |0,_,_,_,_,hf,_,_=>by simp[F0] at hf
 |n+1,x,y,v,bs,hf,hb,r=>by
   have ih:=IL h hR n
   have many:∀{cs ys:List AV} {bs':List Nat} {vs:Array Value},FC (F0 H n) cs=some (ys,bs')->(∀b∈bs',b∈bs)->cs.length=vs.size ->
     (∀(i:Nat) (c:AV) (v:Value),cs[i]?=some c->vs[i]?=some v->bO (Rd X φ w) φ c v) ->
     ys.length=vs.size/\∀ (i:Nat) (c:AV) (v:Value),ys[i]?=some c->vs[i]?=some v->bO R [] c v:=by
    intro cs ys bs' vs hm wO hl hr;obtain⟨MY,Wz⟩:=vP hm;refine⟨by omega,fun i c v hc hv=>?_⟩;obtain⟨x,hx⟩:=bq (l:=cs) (i:=i) (by have:=ak hc; omega);obtain⟨y,b,e1,e2,e3⟩:=Wz i x hx;rw[e2] at hc;simp at hc;subst hc;exact ih x _ v b e1 (fun b' iE=>hb b' (wO _ (e3 b' iE))) (hr i x v hx hv)
   cases x with
   |ptr b off=>
     simp only[F0] at hf;split at hf
     ·rename_i cs dI;split at hf
      ·rename_i ys bs' hm;simp at hf;obtain⟨rfl,rfl⟩:=hf;obtain⟨MY,Wz⟩:=vP hm;cases r with
       |ptr _ _ _ a hbl ha=>
         obtain⟨g,sz,arr,e,h1,h2,h3,h4,h5,h6⟩:=h.cat dI fun g sz hg=>(ha g sz hg).2;obtain⟨rfl,_⟩:=ha g sz h1;refine .dy _ _ _ (fun j=>arr[off+j]?.getD undef) (fun j c hc=>?_) (fun j c hc=>?_)
         ·obtain⟨x,hx⟩:=bq (l:=cs.drop off) (i:=j) (by have:=ak hc; omega);rw[bf] at hx;obtain⟨u,hu,_⟩:=h6 _ _ hx;rw[Addr.ju];refine hb b (by simp) g sz h1 _ _ ?_;rw[gg h2,hu]; simp
         ·obtain⟨x,hx⟩:=bq (l:=cs.drop off) (i:=j) (by have:=ak hc; omega);obtain⟨y,b',e1,e2,e3⟩:=Wz j x hx;rw[e2] at hc;simp at hc;subst hc;rw[bf] at hx;obtain⟨u,hu,r⟩:=h6 _ _ hx;refine ih x _ _ b' e1 (fun c hc=>hb c (by simp[e3 c hc])) ?_;rw[hu]; exact r
      ·cases hf
     ·cases hf
   |sl k b off len=>
     simp only[F0] at hf;split at hf
     ·rename_i cs dI;split at hf
      ·rename_i qK;split at hf
       ·rename_i ys bs' hm;simp at hf;obtain⟨rfl,rfl⟩:=hf;obtain⟨MY,Wz⟩:=vP hm;have A4:ys.length=len*k:=by rw[MY,bw,eQ]; omega
        obtain⟨gl,gm⟩:=Lu k len ys (by omega);cases r with
        |sl _ _ _ _ _ a cap hbl hc ha=>
          obtain⟨g,sz,arr,e,h1,h2,h3,h4,h5,h6⟩:=h.cat dI fun g sz hg=>by have:=(ha g sz hg).2; omega
          obtain⟨T5,iC⟩:=ha g sz h1;by_cases Lq:0<cap
          case neg=>
           have TT:len=0:=by omega
           subst TT;refine .yd _ _ _ _ _ _ (fun _ _=>undef) gl.symm hc (fun x hx=>?_) (fun i j x c hx hc=>?_) (fun i j x c hx hc=>?_)
           all_goals simp[E7] at hx
          obtain rfl:=T5 Lq
          have key:∀(i j:Nat) (x c:AV),(E7 k len ys)[i]?=some x->x.cells[j]?=some c->i*k+j<len*k/\j<k/\ys[i*k+j]?=some c:=by
           intro i j x c hx hc;obtain⟨e1,e2⟩:=gm i x hx;rw[e1,bP] at hc;split at hc
           ·rename_i hj;rw[bf] at hc;have:=ak hc;exact⟨by omega,hj,hc⟩
           ·cases hc
          refine .yd _ _ _ _ _ _ (fun i j=>arr[off+(i*k+j)]?.getD undef) gl.symm hc (fun x hx=>?_) (fun i j x c hx hc=>?_) (fun i j x c hx hc=>?_)
          ·obtain⟨i,hi⟩:=bE hx;obtain⟨e1,e2⟩:=gm i x hi;rw[e1,bw,eQ,A4];have:i*k+k<=len*k:=by rw[<-Nat.succ_mul]; exact bS _ e2
           omega
          ·obtain⟨k1,k2,k3⟩:=key i j x c hx hc;obtain⟨z,hz⟩:=bq (l:=(cs.drop off).take (len*k)) (i:=i*k+j) (by have:=ak k3; omega);rw[aT k1,bf] at hz;obtain⟨u,hu,_⟩:=h6 _ _ hz;rw[Addr.ju];refine hb b (by simp) g sz h1 _ _ ?_;rw[gg h2,hu]; simp
          ·obtain⟨k1,k2,k3⟩:=key i j x c hx hc;obtain⟨z,hz⟩:=bq (l:=(cs.drop off).take (len*k)) (i:=i*k+j) (by have:=ak k3; omega);obtain⟨y,b',e1,e2,e3⟩:=Wz _ z hz;rw[e2] at k3;simp at k3;subst k3;rw[aT k1,bf] at hz;obtain⟨u,hu,r⟩:=h6 _ _ hz;refine ih z _ _ b' e1 (fun c hc=>hb c (by simp[e3 c hc])) ?_;rw[hu]; exact r
       ·cases hf
      ·cases hf
     ·cases hf
   |agg cs=>
     simp only[F0] at hf;split at hf
     ·rename_i ys bs' hm;simp at hf;obtain⟨rfl,rfl⟩:=hf;cases r with
      |agg _ _ vs hl hr=>
        obtain⟨l1,r1⟩:=many hm (fun _ h=>h) hl hr;exact .agg _ _ _ l1 r1
     ·cases hf
   |dt cs=>
     simp only[F0] at hf;split at hf
     ·rename_i ys bs' hm;simp at hf;obtain⟨rfl,rfl⟩:=hf;cases r with
      |dt _ _ vs hl hr=>
        obtain⟨l1,r1⟩:=many hm (fun _ h=>h) hl hr;exact .dt _ _ _ l1 r1
     ·cases hf
   |func f as cs=>
     simp only[F0] at hf;split at hf
     ·rename_i ys bs1 zs bs2 hm0 hm1 hm2;simp at hf;obtain⟨rfl,rfl⟩:=hf;cases r with
      |func _ _ _ va _ vb hy CW CV ha iE=>
        obtain⟨l1,r1⟩:=many hm1 (fun _ h=>by simp[h]) CW ha;obtain⟨l2,r2⟩:=many hm2 (fun _ h=>by simp[h]) CV iE;exact .func _ _ _ _ _ _ hy l1 l2 r1 r2
      |CI=>cases hm0
     ·cases hf
   |_=>
     simp only[F0,af,aC] at hf;obtain⟨rfl,rfl⟩:=hf;exact (r.dD rfl []).mono hR (.refl _)
end Go.Am

/- The check that ties compact operations to the operations of the dump. -/
namespace Go.Am

def LU:Value->AV->Bool
 |.bool a,.bool b=>a == b
 |.int k n,.int k' m=>decide (k=k')&&decide (n=m)
 |.slice none 0 0,.du=>true
 |.pointer none,.fN=>true
 |.nilFunc,.fS=>true
 |.string a,.str b=>decide (a=b)
 |.tuple vs,.undef=>vs.isEmpty
 |_,_=>false
def tI:List Value->List AV->Bool
 |[],[]=>true
 |v::r,x::s=>LU v x&&tI r s
 |_,_=>false
def chkV:Value->AV->Bool
 |.agg cs,.agg ds=>tI cs.toList ds
 |v,x=>LU v x
def cY:Operand->E->Bool
 |.tmp t,.t i=>decide (t=i)
 |.const v,.k x=>chkV v x
 |.func f,.k (.func (.func g) [] [])=>decide (f=g)
 |.global g,.g i=>decide (g=i)
 |_,_=>false
def jB:List Operand->List E->Bool
 |[],[]=>true
 |x::r,y::s=>cY x y&&jB r s
 |_,_=>false
def tM:Option Operand->Option E->Bool
 |none,none=>true
 |some x,some y=>cY x y
 |_,_=>false
def tJ (place:Nat->Option (Nat × Nat)):List (Nat × Operand)->List (Nat × Nat × E)->Bool
 |[],[]=>true
 |(i,x)::r,(off,sz,y)::s=>decide (place i=some (off,sz))&&cY x y&&tJ place r s
 |_,_=>false

def nf (P:Program) (t:TypeId):Option (Option Nat):=
 match P.underlying t with
 |some (.struct _)|some (.array _ _)=>match P.info? t with
   |some i=>some (some i.size)
   |none=>none
 |some _=>some none
 |none=>none
def pF (P:Program) (t:TypeId) (k:Nat):Bool:=
 match P.info? t with
 |some i=>decide (i.size=k)
 |none=>false
def qZ (P:Program) (t:TypeId) (zs:List AV):Bool:=
 match P.info? t with
 |some i=>match i.zero with
   |some z=>tI z.cells.toList zs&&bC zs
   |none=>false
 |none=>false
def jt (P:Program) (t:TypeId) (k:Nat):Bool:=
 match P.underlying t with
 |some (.slice e)=>match P.info? e with
   |some i=>decide (i.size=k)&&decide (0<k)&&decide (i.bytes<=1024)&&(match i.zero with
     |some z=>decide (z.cells.size=k)
     |none=>false)
   |none=>false
 |_=>false
def iT (P:Program) (t:TypeId) (zs:List AV):Bool:=
 match P.underlying t with
 |some (.slice e)=>qZ P e zs
 |_=>false
def ug (P:Program) (fs:Array Field) (i:Nat):Option (Nat × Nat):=
 match fs[i]? with
 |some f=>match P.info? f.type with
   |some j=>some (f.offset,j.size)
   |none=>none
 |none=>none
def vh (P:Program):Nat->List Field->List Bool->Bool
 |_,[],[]=>true
 | o, f :: r, b :: s => decide (f.offset = o) && decide (f.name ≠ "_") && (match P.underlying f.type with
   |some (.int _)=>b
   |some .bool=>!b
   |_=>false)&&vh P (o+1) r s
 |_,_,_=>false
def LZ (P:Program) (t:TypeId):Et->Bool
 |.bool=>match P.underlying t with
   |some .bool=>true
   |_=>false
 |.V8=>match P.underlying t with
   |some (.slice _)=>true
   |_=>false
 |.KI=>match P.underlying t with
   |some (.pointer _)=>true
   |_=>false
 |.nfn=>match P.underlying t with
   |some (.func _ _ _)=>true
   |_=>false
 |.str l=>match P.underlying t with
   |some (.struct fs)=>!P.stoodInHeld t&&!P.eqGuardType P.depth t&&vh P 0 fs.toList l
   |_=>false
def Pw (P:Program) (t:TypeId) (z:AV):Bool:=
 match P.info? t with
 |some i=>match i.zero with
   |some v=>LU v z
   |none=>false
 |none=>false
def tL (P:Program) (t:TypeId):Kt->Bool
 |.kint k=>match P.underlying t with
   |some (.int k')=>decide (k=k')
   |_=>false
 |.CR=>match P.underlying t with
   |some .string=>true
   |_=>false
 |.kst l=>match P.underlying t with
   |some (.struct fs)=>!P.stoodInHeld t&&!P.eqGuardType P.depth t&&vh P 0 fs.toList l
   |_=>false
def isSlice (P:Program) (t:TypeId):Bool:=
 match P.underlying t with
 |some (.slice _)=>true
 |_=>false

def eqOp:BinOp->Bool->Bool
 |.eql,ng=>!ng
 |.neq,ng=>ng
 |_,_=>false
def cX (P:Program):Op->Kd->Bool
 |.move x,.mv y=>cY x y
 |.assign x,.mv y=>cY x y
 |.pick c a b,.pick c' a' b'=>cY c c'&&cY a a'&&cY b b'
 |.alloc t,.new zs=>qZ P t zs
 |.box _ x,.box y=>cY x y
 |.build t ps,.build zs qs=>qZ P t zs&&(match P.underlying t with
   |some (.struct fs)=>(fs.toList.all fun f=>(P.info? f.type).isSome)&&tJ (ug P fs) ps.toList qs
   |some (.array _ e)=>match P.info? e with
     |some i=>tJ (fun j=>some (j*i.size,i.size)) ps.toList qs
     |none=>false
   |_=>false)
 |.buildSlice t n ps,.dK k m zs qs=>decide (n=m)&&jt P t k&&iT P t zs&&decide (n*k<=16777216)&&tJ (fun j=>some (j*k,k)) ps.toList qs
 |.load t a,.ld ag y=>decide (nf P t=some ag)&&cY a y
 |.store t a v,.st k b y=>pF P t k&&cY a b&&cY v y
 |.nilCheck x,.oS y=>cY x y
 |.binOp op _ x y _,.bin op' x' y'=>decide (op=op')&&cY x x'&&cY y y'
 |.binOp op t x y _,.eq ng et x' y'=>eqOp op ng&&LZ P t et&&cY x x'&&cY y y'
 |.unOp op _ x,.un op' y=>decide (op=op')&&cY x y
 |.convert s d x,.Q5 k y=>(P.underlying s).isSome&&(match P.underlying d with
   |some (.int k')=>decide (k=k')
   |_=>false)&&cY x y
 |.makeFunc fn as bs,.U0 fn' cs ds=>decide (fn=fn')&&jB as.toList cs&&jB bs.toList ds
 |.makeSlice t l c,.P6 k zs l' c'=>jt P t k&&iT P t zs&&cY l l'&&cY c c'
 |.slice t x lo hi none,.Fc k y lo' wS=>jt P t k&&cY x y&&tM lo lo'&&tM hi wS
 |.fieldAddr s x f,.yf off y=>(match P.underlying s with
   |some (.struct fs)=>match fs[f]? with
     |some fd=>decide (fd.offset=off)&&(match P.info? fd.type with
       |some i=>decide (i.size≠0)
       |none=>false)
     |none=>false
   |_=>false)&&cY x y
 |.field s x f,.fld off ag y=>(match P.underlying s with
   |some (.struct fs)=>match fs[f]? with
     |some fd=>decide (fd.offset=off)&&decide (nf P fd.type=some ag)
     |none=>false
   |_=>false)&&cY x y
 |.indexAddr t x i,.qc k y j=>jt P t k&&cY x y&&cY i j
 |.indexAddr t x i,.Ic n k y j=>(match P.underlying t with
   |some (.array n' e)=>decide (n=n')&&pF P e k
   |_=>false)&&cY x y&&cY i j
 |.index t x i,.ix n k ag y j=>(match P.underlying t with
   |some (.array n' e)=>decide (n=n')&&pF P e k&&decide (nf P e=some ag)
   |_=>false)&&cY x y&&cY i j
 |.index t (.const (.string s)) i,.ixs tab j=>(match P.underlying t with
   |some .string=>true
   |_=>false)&&decide (s.data.toList.map (·.toNat)=tab)&&cY i j
 |.call { callee:=.builtin .clear,args,argTypes },.clr k zs x=>(match args.toList,argTypes.toList with
   |[x'],[t]=>jt P t k&&iT P t zs&&cY x' x
   |_,_=>false)
 |.extract x i,.ext j y=>decide (i=j)&&cY x y
 |.call { callee:=.value (.func f),args,argTypes:=_ },.call g xs=>decide (f=g)&&jB args.toList xs
 |.call { callee:=.value x,args,argTypes:=_ },.jC y xs=>cY x y&&jB args.toList xs
 |.call { callee:=.builtin .len,args,argTypes },.len y=>(match args.toList,argTypes.toList with
   |[x],[t]=>isSlice P t&&cY x y
   |_,_=>false)
 |.call { callee:=.builtin .append,args,argTypes },.app k x y=>(match args.toList,argTypes.toList with
   |[x',y'],[t,t']=>decide (t=t')&&jt P t k&&cY x' x&&cY y' y
   |_,_=>false)
 |.call { callee:=.builtin .min,args,argTypes:=_ },.min xs=>jB args.toList xs
 |.call { callee:=.builtin .max,args,argTypes:=_ },.max xs=>jB args.toList xs
 |.slice t x none hi none,.Na n y wS=>(match P.underlying t with
   |some (.array n' e)=>decide (n=n')&&pF P e 1
   |_=>false)&&(cY x y&&tM hi wS)
 |.call { callee:=.builtin .copy,args,argTypes },.copy k x y=>(match args.toList,argTypes.toList with
   |[x',y'],[t,_]=>jt P t k&&cY x' x&&cY y' y
   |_,_=>false)
 |.makeMap _ none,.FA=>true
 |.lookup t x i ok,.Bs kt ok' z y k=>decide (ok=ok')&&(match P.underlying t with
   |some (.map key el)=>tL P key kt&&Pw P el z
   |_=>false)&&cY x y&&cY i k
 |.mapUpdate t m i v,.CH kt y k u=>(match P.underlying t with
   |some (.map key _)=>tL P key kt
   |_=>false)&&cY m y&&cY i k&&cY v u
 |_,.bad=>true
 |_,_=>false

def QD (P:Program) (N:Nat) (ops:Array Oper) (o:Oper) (q:O):Bool:=
 decide (o.dst=q.dst)&&(match q.dst with
  |some d=>decide (d<N)
  |none=>true)&&(match o.guard,q.guard with
  |none,none=>true
  |some (j,want),some (g,aio)=>decide ((ops[j]?).bind (·.dst)=some g)&&decide (want=aio)
  |_,_=>false)&&cX P o.op q.kd
def ai2 (P:Program) (N:Nat) (ops:Array Oper):List Oper->List O->Bool
 |[],[]=>true
 |o::r,q::s=>QD P N ops o q&&ai2 P N ops r s
 |_,_=>false
def jZ (x y:O):Bool:=
 (match x.dst with
  |some d=>!mem d y.reads&&decide (y.dst≠some d)
  |none=>true) &&
 (match y.dst with
  |some d=>!mem d x.reads
  |none=>true)
def lg (i j:Nat):List (Nat × Nat)->Bool
 |[]=>false
 |p::r=>(decide (p.1=i)&&decide (p.2=j))||lg i j r
def direct (y:Oper):List Nat:=(y.after.toList.filter fun e=>Region.binds .any e).map (·.on)
def dedup:List Nat->List Nat
 |[]=>[]
 |x::r=>if mem x (dedup r) then dedup r else x::dedup r
def Mo (EX:List (List Nat)) (y:Oper):List Nat:=dedup (direct y++(dedup (direct y)).flatMap fun i=>EX.getD i [])
def ah3 (un:List (Nat × Nat)) (i j:Nat) (x:O) (ys:List Nat) (q:O):Bool:=mem i ys||(jZ x q&&(x.kd.pure||q.kd.pure||lg i j un))
def O5 (un:List (Nat × Nat)) (j:Nat) (ys:List Nat) (q:O):Nat->List O->Bool
 |_,[]=>true
 |i,x::r=>ah3 un i j x ys q&&O5 un j ys q (i+1) r
def UA (un:List (Nat × Nat)) (EX:List (List Nat)) (seen:List O):List Oper->List O->Bool
 |y::r,q::s=>((direct y).all fun i=>decide (i<seen.length))&&O5 un seen.length (Mo EX y) q 0 seen&&UA un (EX++[Mo EX y]) (seen++[q]) r s
 |_,_=>true
def chk (P:Program) (N:Nat):Code->C->Bool
 |.skip,.skip=>true
 |.ret,.ret=>true
 |.exit i,.exit j=>decide (i=j)
 |.region _ ops d,.pI os dr un _=>decide (d=dr)&&ai2 P N ops ops.toList os&&(!dr||UA un [] [] ops.toList os)
 |.seq a b,.seq x y=>chk P N a x&&chk P N b y
 |.cond c a b,.cond c' x y=>cY c c'&&chk P N a x&&chk P N b y
 |.block i b,.aJ j x=>decide (i=j)&&chk P N b x
 |.loop b,.loop x=>chk P N b x
 |.label _,.skip=>true
 |.scope b,.seq .skip x=>chk P N b x
 |_,_=>false
def chkR (P:Program):ResultVar->Rv->Bool
 |.tmp t,.t i=>decide (t=i)
 |.cell a t,.c i ag=>decide (a=i)&&decide (nf P t=some ag)
 |_,_=>false
def H5 (P:Program):List ResultVar->List Rv->Bool
 |[],[]=>true
 |x::r,y::s=>chkR P x y&&H5 P r s
 |_,_=>false
def chkF (P:Program) (fn:Func) (q:fW):Bool:=
 decide (fn.ntmps = q.n) && !(fn.name == "runtime.NumGoroutine") && H5 P fn.results.toList q.res && (match fn.body with
  |some c=>chk P q.n c q.body
  |none=>false)
structure UU (P:Program) (c:eI):Prop where
 mixed:P.follows .mixedOrders=true
 fn:∀f m q,c.fn f=some (m,q)->∃fn,P.funcs[f]?=some fn/\chkF P fn q=true
end Go.Am

/- What one operation of the dump does is what the compact operation says: the operations that call nothing. -/
namespace Go.Am

def dX (c:eI) (X:Nat->Prop) (φ:dj) (w:World):Prop:=∀g,bO (Rd X φ w) [] (.dy (c.gl g)) (.pointer (some ⟨g,0,none⟩))
theorem dX.nZ {c:eI} {X:Nat->Prop} {φ φ':dj} {w w':World} (h:dX c X φ w) (a:fg φ w φ' w'):dX c X φ' w':=fun g=>(h g).mono a.rd (.refl _)

def Ok (P:Program) (X:Nat->Prop) (φ:dj) (w:World) (o:Oper) (a:Act) (v:AV) (H':Heap):Prop:=
 ∀ (K:Act->World->Prop) (Q:Exit->Act->World->Prop),(∀v' w' φ',bO (Rd X φ' w') φ' v v'->cj X φ' w' H'->fg φ w φ' w'->K (a.put o.dst v') w')->o.wp P a w K Q

section
variable {P:Program} {c:eI} {X:Nat->Prop} {φ:dj} {w:World} {env:Env} {H:Heap} {a:Act} {o:Oper}

theorem Ok.value {v:AV} {v':Value} {w':World} {H':Heap} {φ':dj} (hr:(execOp a.eval o).run P w=.ok (.value v') w') (r:bO (Rd X φ' w') φ' v v') (h:cj X φ' w' H') (k:fg φ w φ' w'):Ok P X φ w o a v H':=by
 intro K Q hK;unfold Oper.wp;rw[hr];exact hK v' w' φ' r h k
theorem Ok.quiet {v:AV} {v':Value} (hr:(execOp a.eval o).run P w=.ok (.value v') w) (r:bO (Rd X φ w) φ v v') (h:cj X φ w H):Ok P X φ w o a v H:=Ok.value hr r h (.refl _ _)
theorem Ok.skip {w':World} {H':Heap} {φ':dj} (hr:(execOp a.eval o).run P w=.ok .skip w') (h:cj X φ' w' H') (k:fg φ w φ' w'):Ok P X φ w o a .undef H':=by
 intro K Q hK;unfold Oper.wp;rw[hr];exact hK undef w' φ' (.undef _) h k

theorem F5 {R:Addr->Value->Prop} {ψ:dj} {v:Value} {x:AV} (h:LU v x=true):bO R ψ x v:=by
 unfold LU at h;split at h
 ·simp at h; subst h; exact .bool _ _
 ·simp at h; obtain⟨rfl,rfl⟩:=h; exact .int _ _ _
 ·exact .du _
 ·exact .fN _
 ·exact .fS _
 ·simp at h; subst h; exact .str _ _
 ·rename_i vs;have:vs=#[]:=by simpa using h
  subst this;exact .undef _
 ·cases h
theorem F4 {R:Addr->Value->Prop} {ψ:dj}:∀{vs:List Value} {xs:List AV},tI vs xs=true->xs.length=vs.length/\∀ (i:Nat) (x:AV) (v:Value),xs[i]?=some x->vs[i]?=some v->bO R ψ x v
 |[],[],_=>⟨rfl,fun i x v hx=>by simp at hx⟩
 |[],_::_,h=>by simp[tI] at h
 |_::_,[],h=>by simp[tI] at h
 |v::r,x::s,h=>by
   simp only[tI,ae] at h;obtain⟨hl,hm⟩:=F4 (R:=R) (ψ:=ψ) h.2;refine⟨by simp[hl],fun i y u hy hu=>?_⟩;cases i with
   |zero=>simp at hy hu; subst hy; subst hu; exact F5 h.1
   |succ i=>simp at hy hu; exact hm i y u hy hu
theorem afu {R:Addr->Value->Prop} {ψ:dj} {v:Value} {x:AV} (h:chkV v x=true):bO R ψ x v:=by
 unfold chkV at h;split at h
 ·rename_i cs ds;obtain⟨hl,hm⟩:=F4 (R:=R) (ψ:=ψ) h;exact .agg _ _ _ (by simpa using hl) fun i x v hx hv=>hm i x v hx (by simpa using hv)
 ·exact F5 h
theorem bZ (he:qR X φ w env a.tmps) (hg:dX c X φ w) {x:Operand} {y:E} (h:cY x y=true):bO (Rd X φ w) φ (ev c env y) (a.eval x):=by
 unfold cY at h;split at h
 ·simp at h; subst h; exact he _
 ·exact afu h
 ·simp at h; subst h;exact .func _ _ _ _ _ _ rfl rfl rfl (fun i c v hc=>by simp at hc) (fun i c v hc=>by simp at hc)
 ·simp at h; subst h; exact (hg _).dD rfl _
 ·cases h

def ud (X:Nat->Prop) (φ:dj) (w:World) (xs:List AV) (vs:Array Value):Prop:=xs.length=vs.size/\∀ (i:Nat) (x:AV) (v:Value),xs[i]?=some x->vs[i]?=some v->bO (Rd X φ w) φ x v
theorem pY (he:qR X φ w env a.tmps) (hg:dX c X φ w):∀{xs:List Operand} {ys:List E},jB xs ys=true ->
  (IM c env ys).length=xs.length/\∀ (i:Nat) (x:AV) (v:Value),(IM c env ys)[i]?=some x->(xs.map a.eval)[i]?=some v->bO (Rd X φ w) φ x v
 |[],[],_=>⟨rfl,fun i x v hx=>by simp[IM] at hx⟩
 |[],_::_,h=>by simp[jB] at h
 |_::_,[],h=>by simp[jB] at h
 |x::r,y::s,h=>by
   simp only[jB,ae] at h;obtain⟨hl,hm⟩:=pY he hg h.2;refine⟨by simp[IM,hl],fun i z v hz hv=>?_⟩;cases i with
   |zero=>simp[IM] at hz hv; subst hz; subst hv; exact bZ he hg h.1
   |succ i=>simp[IM] at hz; simp at hv; exact hm i z v hz (by simpa using hv)

/-! Places -/
def Q6 (X:Nat->Prop) (φ:dj) (w:World) (cs:List AV) (ad:Addr):Prop:=∀(j:Nat) (x:AV),cs[j]?=some x->∃u,w.cell? (ad.add j)=some u/\bO (Rd X φ w) φ x u
theorem bO.HH {R:Addr->Value->Prop} {x:AV} {v:Value} (h:bO R [] x v) (φ:dj):bO R φ x v:=h.mono (fun _ _ h=>h) ⟨Nat.zero_le _,fun b p hb=>by simp at hb⟩
theorem Q6.aad {cs:List AV} {v:Value} (h:bO (Rd X φ w) φ (.dy cs) v):∃ad,v=.pointer (some ad)/\Q6 X φ w cs ad:=by
 cases h with
 |dy _ _ ad u hu h=>exact⟨ad,rfl,fun j x hx=>⟨u j,(hu j x hx).2.2,(h j x hx).HH φ⟩⟩
theorem Q6.V6 (hh:cj X φ w H) {b off:Nat} {cs:List AV} (hb:aJ H b=some cs) {v:Value} (h:bO (Rd X φ w) φ (.ptr b off) v) :
  ∃ g sz arr e,v=.pointer (some ⟨g,off,none⟩)/\φ[b]?=some (some (g,sz))/\w.heap[g]?=some (.cells arr e (0,0))/\arr.size+1=sz/\cs.length<=arr.size/\¬ X g /\
   (∀(i:Nat) (c:AV),cs[i]?=some c->∃u,arr[i]?=some u/\bO (Rd X φ w) φ c u)/\Q6 X φ w (cs.drop off) ⟨g,off,none⟩:=by
 cases h with
 |ptr _ _ _ ad hbl hp=>
   obtain⟨g,sz,arr,e,h1,h2,h3,h4,h5,h6⟩:=hh.cat hb fun g sz hg=>(hp g sz hg).2;obtain⟨rfl,_⟩:=hp g sz h1;refine⟨g,sz,arr,e,rfl,h1,h2,h3,h4,h5,h6,fun j x hx=>?_⟩;rw[bf] at hx;obtain⟨u,hu,r⟩:=h6 _ _ hx;exact⟨u,by rw[Addr.ju,gg h2]; exact hu,r⟩
theorem Q6.values {cs:List AV} {ad:Addr} (h:Q6 X φ w cs ad):∀n,n<=cs.length->∃vs:List Value,vs.length=n/\(∀(j:Nat) (v:Value),vs[j]?=some v->w.cell? (ad.add j)=some v) /\
  ∀ (j:Nat) (x:AV) (v:Value),(cs.take n)[j]?=some x->vs[j]?=some v->bO (Rd X φ w) φ x v
 |0,_=>⟨[],rfl,fun j v hv=>by simp at hv,fun j x v hx=>by simp at hx⟩
 |n+1,hn=>by
   obtain⟨vs,hl,h1,h2⟩:=Q6.values h n (by omega);obtain⟨x,hx⟩:=bq (l:=cs) (i:=n) (by omega);obtain⟨u,hu,r⟩:=h n x hx;refine⟨vs++[u],by simp[hl],fun j v hv=>?_,fun j y v hy hv=>?_⟩
   ·by_cases hj:j<vs.length
    ·rw[aq hj] at hv; exact h1 j v hv
    ·have bF:=ak hv;simp at bF;have hje:j=n:=by omega
     subst hje;rw[aM (by omega)] at hv;simp[hl] at hv;subst hv;exact hu
   ·by_cases hj:j<vs.length
    ·rw[aq hj] at hv;rw[aT (by omega)] at hy;exact h2 j y v (by rw[aT (by omega)]; exact hy) hv
    ·have bF:=ak hv;simp at bF;have hje:j=n:=by omega
     subst hje;rw[aM (by omega)] at hv;simp[hl] at hv;subst hv;rw[aT (by omega),hx] at hy;simp at hy;subst hy;exact r

theorem yS {t:TypeId} {i:TypeInfo} (h:P.info? t=some i):(typeInfo t).run P w=.ok i w:=by simp[typeInfo,h]
theorem je {t:TypeId} {i:TypeInfo} (h:P.info? t=some i):(sizeOf t).run P w=.ok i.size w:=by simp[sizeOf,yS h]
theorem ti {t:TypeId} {i:TypeInfo} {z:Value} (h:P.info? t=some i) (hz:i.zero=some z):(zeroValue t).run P w=.ok z w:=by simp[zeroValue,yS h,hz]

theorem Mq {t:TypeId} {k:Nat} (h:nf P t=some (some k)):∃i,P.info? t=some i/\i.size=k/\(isAgg t).run P w=.ok true w:=by
 unfold nf at h;split at h
 ·rename_i fs hu;split at h
  ·rename_i i hi;exact⟨i,hi,by simpa using h,by simp[isAgg,run_underlying hu]⟩
  ·cases h
 ·rename_i n e hu;split at h
  ·rename_i i hi;exact⟨i,hi,by simpa using h,by simp[isAgg,run_underlying hu]⟩
  ·cases h
 ·simp at h
 ·cases h
theorem p9 {t:TypeId} (h:nf P t=some none):(isAgg t).run P w=.ok false w:=by
 unfold nf at h;split at h
 ·split at h<;>simp at h
 ·split at h<;>simp at h
 ·rename_i d h1 h2 hu;simp only[isAgg,Sem.run_bind,run_underlying hu,Result.andThen_ok];rfl
 ·cases h
theorem P7 {t:TypeId} {ag:Option Nat} (ha:nf P t=some ag) {cs:List AV} {x:AV} (hx:Fj ag cs=some x) {ad:Addr} (hp:Q6 X φ w cs ad) :
  ∃ v,(loadVar t ad).run P w=.ok v w/\bO (Rd X φ w) φ x v:=by
 cases ag with
 |some k=>
   obtain⟨i,hi,hk,EF⟩:=Mq (w:=w) ha;simp only[Fj] at hx;split at hx
   ·rename_i hle;simp at hx;subst hx;obtain⟨vs,hl,h1,h2⟩:=hp.values k hle;have hlc:=run_loadCells_list (P:=P) w ad vs h1;refine⟨.agg vs.toArray,?_,.agg _ _ _ (by simp[hl]; omega) fun i c v hc hv=>h2 i c v hc (by simpa using hv)⟩;simp only[loadVar,Sem.run_bind,EF,Result.andThen_ok,if_true,je hi,hk];rw[<-hl,hlc];simp
   ·cases hx
 |none=>
   have EF:=p9 (P:=P) (w:=w) ha;simp only[Fj] at hx;cases cs with
   |nil=>simp at hx
   |cons y r=>
     simp at hx;subst hx;obtain⟨u,hu,r⟩:=hp 0 y rfl;rw[Addr.add_zero'] at hu;refine⟨u,?_,r⟩;simp only[loadVar,Sem.run_bind,EF,Result.andThen_ok,bk,if_false,run_load,hu]

theorem ZR {t:TypeId} {ag:Option Nat} (ha:nf P t=some ag) {cs:List AV} {vs:Array Value} (hl:cs.length=vs.size)
  (hr:∀(i:Nat) (c:AV) (v:Value),cs[i]?=some c->vs[i]?=some v->bO (Rd X φ w) φ c v) {off:Nat} {x:AV} (hx:Fj ag (cs.drop off)=some x) :
  ∃ v,(part t vs off).run P w=.ok v w/\bO (Rd X φ w) φ x v:=by
 cases ag with
 |some k=>
   obtain⟨i,hi,hk,EF⟩:=Mq (w:=w) ha;simp only[Fj] at hx;split at hx
   ·rename_i hle;simp at hx;subst hx;rw[eQ] at hle;refine⟨.agg (vs.extract off (off+k)),?_,.agg _ _ _ ?_ fun j c v hc hv=>?_⟩
    ·simp only[part,Sem.run_bind,EF,Result.andThen_ok,if_true,je hi,hk,Sem.run_pure]
    ·simp only[bw,eQ,Array.size_extract]; omega
    ·have hjk:j<k:=by have:=ak hc; simp only[bw] at this; omega
     rw[aT hjk,bf] at hc
     have hv':vs[off+j]?=some v:=by
      rw[Array.getElem?_extract] at hv;split at hv
      ·exact hv
      ·cases hv
     exact hr _ c v hc hv'
   ·cases hx
 |none=>
   have EF:=p9 (P:=P) (w:=w) ha;simp only[Fj,List.head?_drop] at hx;have bF:=ak hx;obtain⟨v,hv⟩:=bX (l:=vs) (i:=off) (by omega);exact⟨v,by simp only[part,Sem.run_bind,EF,Result.andThen_ok,bk,if_false,hv,Sem.run_pure],hr off x v hx hv⟩

theorem iq {k:IntKind} {n:Int} {v:Value} (h:bO (Rd X φ w) φ (.int k n) v):v=.int k n:=by cases h; rfl
theorem oE {b:Bool} {v:Value} (h:bO (Rd X φ w) φ (.bool b) v):v=.bool b:=by cases h; rfl

theorem af6 {op:BinOp} {t:TypeId} {k k':IntKind} {x y:Int} {r:AV} (h:sP op (.int k x) (.int k' y)=some r) :
  ∃ v,(binOp op t (.int k x) (.int k' y)).run P w=.ok v w/\∀ R ψ,bO R ψ r v:=by
 cases op<;>simp only[sP,arith] at h
 case shl=>
  split at h
  ·cases h
  ·rename_i hn;simp at h; subst h;exact⟨_,by simp[binOp,Op.shift,hn],fun _ _=>.int _ _ _⟩
 case shr=>
  split at h
  ·cases h
  ·rename_i hn;simp at h; subst h;exact⟨_,by simp[binOp,Op.shift,hn],fun _ _=>.int _ _ _⟩
 all_goals
  split at h
  ·rename_i hk;subst hk
   first
    |(simp at h; subst h; first|exact⟨_,by simp[go_sem],fun _ _=>.int _ _ _⟩|exact⟨_,by simp[go_sem],fun _ _=>.bool _ _⟩)
    | (split at h
       ·cases h
       ·rename_i hn;simp at h; subst h;exact⟨_,by simp[go_sem,hn],fun _ _=>.int _ _ _⟩)
  ·cases h

theorem Qz {l:List Bool} {xs ys:List AV} {e:Bool} (h:Bb (true::l) xs ys=some e) :
  ∃ k a r b s e',xs=.int k a::r/\ys=.int k b::s/\Bb l r s=some e'/\e=(a == b&&e'):=by
 cases xs with
 |nil=>simp[Bb] at h
 |cons x r=>
   cases ys with
   |nil=>cases x<;>simp[Bb] at h
   |cons y s=>
     cases x<;>cases y<;>simp[Bb] at h
     rename_i k a k' b;obtain⟨rfl,h⟩:=h;split at h
     ·rename_i e' he;simp at h;exact⟨k,a,r,b,s,e',rfl,rfl,he,h.symm⟩
     ·cases h
theorem LJ {l:List Bool} {xs ys:List AV} {e:Bool} (h:Bb (false::l) xs ys=some e) :
  ∃ a r b s e',xs=.bool a::r/\ys=.bool b::s/\Bb l r s=some e'/\e=(a == b&&e'):=by
 cases xs with
 |nil=>simp[Bb] at h
 |cons x r=>
   cases ys with
   |nil=>cases x<;>simp[Bb] at h
   |cons y s=>
     cases x<;>cases y<;>simp[Bb] at h
     rename_i a b;split at h
     ·rename_i e' he;simp at h;exact⟨a,r,b,s,e',rfl,rfl,he,h.symm⟩
     ·cases h
theorem wu (d:Nat):∀(fs:List Field) (l:List Bool) (off:Nat) (xs ys:List AV) (vx vy:Array Value) (e:Bool),vh P off fs l=true->Bb l (xs.drop off) (ys.drop off)=some e ->
  xs.length=vx.size->ys.length=vy.size->(∀(i:Nat) (c:AV) (v:Value),xs[i]?=some c->vx[i]?=some v->bO (Rd X φ w) φ c v) ->
  (∀(i:Nat) (c:AV) (v:Value),ys[i]?=some c->vy[i]?=some v->bO (Rd X φ w) φ c v)->(Op.eqFields (d+1) vx vy fs).run P w=.ok e w
 |[],[],off,xs,ys,vx,vy,e,_,he,_,_,_,_=>by
   generalize xs.drop off=a at he;generalize ys.drop off=b at he;cases a<;>cases b<;>simp[Bb] at he
   subst he;rfl
 |[],_::_,_,_,_,_,_,_,h,_,_,_,_,_=>by simp[vh] at h
 |_::_,[],_,_,_,_,_,_,h,_,_,_,_,_=>by simp[vh] at h
 |f::fs,b::l,off,xs,ys,vx,vy,e,h,he,FV,FU,hx,hy=>by
   simp only[vh,ae,decide_eq_true_eq] at h;obtain⟨⟨⟨Qm,EB⟩,IH⟩,OA⟩:=h;have ih:=fun e he=>wu d fs l (off+1) xs ys vx vy e OA he FV FU hx hy
   have cell:∀(zs:List AV) (vz:Array Value) (z:AV) (r:List AV),zs.length=vz.size->zs.drop off=z::r->(∃v,vz[off]?=some v)/\zs[off]?=some z/\zs.drop (off+1)=r:=by
    intro zs vz z r hl hd
    have h0:zs[off]?=some z:=by
     have h:=congrArg (·[0]?) hd;simp only[bf,Q8,B3] at h;exact h
    refine⟨bX (by have:=ak h0; omega),h0,?_⟩;rw[<-List.tail_drop,hd]; rfl
   split at IH
   ·rename_i k hu;subst IH;have EF:nf P f.type=some none:=by simp[nf,hu]
    have hna:=p9 (P:=P) (w:=w) EF;obtain⟨kx,a,r,b',s,e',hdx,hdy,hee,rfl⟩:=Qz he;obtain⟨⟨vx0,hvx⟩,yx,hx1⟩:=cell xs vx _ _ FV hdx;obtain⟨⟨vy0,hvy⟩,hy0,hy1⟩:=cell ys vy _ _ FU hdy;obtain rfl:=iq (hx off _ vx0 yx hvx);obtain rfl:=iq (hy off _ vy0 hy0 hvy);have ih':=ih e' (by rw[hx1,hy1]; exact hee);simp only[Op.eqFields,EB,ne_eq,not_false_eq_true,if_true,part,Sem.run_bind,hna,Result.andThen_ok,bk,if_false,Qm,hvx,hvy,Sem.run_pure,run_equalIn_int w d f.type kx k a b' hu];cases hab:(a == b')<;>simp[ih']
   ·rename_i hu;simp only[bJ] at IH;subst IH;have EF:nf P f.type=some none:=by simp[nf,hu]
    have hna:=p9 (P:=P) (w:=w) EF;obtain⟨a,r,b',s,e',hdx,hdy,hee,rfl⟩:=LJ he;obtain⟨⟨vx0,hvx⟩,yx,hx1⟩:=cell xs vx _ _ FV hdx;obtain⟨⟨vy0,hvy⟩,hy0,hy1⟩:=cell ys vy _ _ FU hdy;obtain rfl:=oE (hx off _ vx0 yx hvx);obtain rfl:=oE (hy off _ vy0 hy0 hvy);have ih':=ih e' (by rw[hx1,hy1]; exact hee);simp only[Op.eqFields,EB,ne_eq,not_false_eq_true,if_true,part,Sem.run_bind,hna,Result.andThen_ok,bk,if_false,Qm,hvx,hvy,Sem.run_pure,run_equalIn_bool w d f.type a b' hu];cases hab:(a == b')<;>simp[ih']
   ·cases IH
end
end Go.Am

/- What one operation of the dump does, continued: memory. -/
set_option linter.unusedSimpArgs false
namespace Go.Am
section
variable {P:Program} {c:eI} {X:Nat->Prop} {φ:dj} {w:World} {env:Env} {H:Heap} {a:Act} {o:Oper}

def Cs (X:Nat->Prop) (φ:dj) (w:World) (cs:List AV) (vs:List Value):Prop:=cs.length=vs.length/\∀ (i:Nat) (c:AV) (v:Value),cs[i]?=some c->vs[i]?=some v->bO (Rd X φ w) φ c v
theorem Cs.get {cs:List AV} {vs:List Value} (h:Cs X φ w cs vs) {i:Nat} {c:AV} (hc:cs[i]?=some c):∃u,vs[i]?=some u/\bO (Rd X φ w) φ c u:=by
 obtain⟨u,hu⟩:=bq (l:=vs) (i:=i) (h.1▸ak hc);exact⟨u,hu,h.2 i c u hc hu⟩
theorem Cs.append {cs ds:List AV} {vs us:List Value} (h:Cs X φ w cs vs) (k:Cs X φ w ds us):Cs X φ w (cs++ds) (vs++us):=by
 refine⟨by simp[h.1,k.1],fun i c v hc hv=>?_⟩;by_cases hi:i<cs.length
 ·rw[aq hi] at hc;rw[aq (h.1▸hi)] at hv;exact h.2 i c v hc hv
 ·rw[aM (by omega)] at hc;rw[aM (by have:=h.1; omega)] at hv;rw[h.1] at hc;exact k.2 _ c v hc hv
theorem Cs.take {cs:List AV} {vs:List Value} (h:Cs X φ w cs vs) (n:Nat):Cs X φ w (cs.take n) (vs.take n):=by
 refine⟨by simp[h.1],fun i c v hc hv=>?_⟩;have hi:i<n:=by have:=ak hc; simp at this; omega
 rw[aT hi] at hc hv;exact h.2 i c v hc hv
theorem Cs.drop {cs:List AV} {vs:List Value} (h:Cs X φ w cs vs) (n:Nat):Cs X φ w (cs.drop n) (vs.drop n):=by
 refine⟨by simp[h.1],fun i c v hc hv=>?_⟩;rw[bf] at hc hv;exact h.2 _ c v hc hv
theorem Cs.j9 {cs ds:List AV} {vs us:List Value} (h:Cs X φ w cs vs) (k:Cs X φ w ds us) (off:Nat):Cs X φ w (j9 cs off ds) (vs.take off++us++vs.drop (off+us.length)):=by
 unfold Am.j9;rw[<-k.1];exact ((h.take off).append k).append (h.drop _)
theorem bO.cs {x:AV} {v:Value} (h:bO (Rd X φ w) φ x v) (hs:bC x.cells=true):Cs X φ w x.cells v.cells.toList/\∀ u∈v.cells.toList,u.oneCell'=true:=by
 obtain⟨hl,hm⟩:=h.cells hs;refine⟨⟨by simpa using hl,fun i c u hc hu=>?_⟩,fun u hu=>?_⟩
 ·obtain⟨u',h1,h2,_⟩:=hm i c hc;simp at hu;rw[h1] at hu;simp at hu;subst hu;exact h2
 ·obtain⟨i,hi⟩:=bE hu;obtain⟨c,hc⟩:=bq (l:=x.cells) (i:=i) (by have:=ak hi; simp at this; omega);obtain⟨u',h1,_,h3⟩:=hm i c hc;simp at hi;rw[h1] at hi;simp at hi;subst hi;exact h3
theorem Cs.uq {cs:List AV} {vs:List Value} (h:Cs X φ w cs vs) (hl:bC cs=true):∀u∈vs,u.oneCell'=true:=by
 intro u hu;obtain⟨i,hi⟩:=bE hu;obtain⟨c,hc⟩:=bq (l:=cs) (i:=i) (by have:=ak hi; have:=h.1; omega);exact (h.2 i c u hc hi).uq (Aj hl i c hc)
theorem vp {t:TypeId} {zs:List AV} (h:qZ P t zs=true):∃i z,P.info? t=some i/\i.zero=some z/\Cs X φ w zs z.cells.toList/\bC zs=true:=by
 unfold qZ at h;split at h
 ·rename_i i hi;split at h
  ·rename_i z hz;simp only[ae] at h;exact⟨i,z,hi,hz,F4 h.1,h.2⟩
  ·cases h
 ·cases h
theorem jA {t:TypeId} {k:Nat} (h:jt P t k=true):∃e i z,P.underlying t=some (.slice e)/\P.info? e=some i/\i.size=k/\0<k/\i.bytes<=1024/\i.zero=some z/\z.cells.size=k:=by
 unfold jt at h;split at h
 ·rename_i e hu;split at h
  ·rename_i i hi;simp only[ae,decide_eq_true_eq] at h;obtain⟨⟨⟨h1,h2⟩,h3⟩,h4⟩:=h;split at h4
   ·rename_i z hz;exact⟨e,i,z,hu,hi,h1,h2,h3,hz,by simpa using h4⟩
   ·cases h4
  ·cases h
 ·cases h

theorem vZ (hh:cj X φ w H) {arr:Array Value} {e:TypeId} {cs:List AV} {w1:World} (hw:w1.heap=w.heap) (ho:w1.os=w.os) (ht:w1.tape=w.tape) (hp:w1.output=w.output)
  (hl:cs.length<=arr.size) (hc:∀(i:Nat) (c:AV),cs[i]?=some c->∃u,arr[i]?=some u/\bO (Rd X φ w) φ c u) (hd:w.drawn<=w1.drawn:=by first|exact aO _|exact Nat.le_succ _) :
  cj X (φ++[some (w.heap.size,arr.size+1)]) (w1.alloc (.cells arr e)) (H++[some cs])/\fg φ w (φ++[some (w.heap.size,arr.size+1)]) (w1.alloc (.cells arr e)):=
 hh.alloc (w':=w1.alloc (.cells arr e)) (e:=e) (by simp[World.alloc,hw]) ho ht hp hl hc hd
theorem Cs.at {cs:List AV} {vs:List Value} {arr:Array Value} (h:Cs X φ w cs vs) (hv:∀(i:Nat) (u:Value),vs[i]?=some u->arr[i]?=some u):∀(i:Nat) (c:AV),cs[i]?=some c->∃u,arr[i]?=some u/\bO (Rd X φ w) φ c u:=by
 intro i c hc;obtain⟨u,hu,r⟩:=h.get hc;exact⟨u,hv i u hu,r⟩
theorem aah {R:Addr->Value->Prop} {n g sz:Nat} (hn:φ.length=n):bO R (φ++[some (g,sz+1)]) (.ptr n 0) (.pointer (some ⟨g,0,none⟩)):=by
 refine .ptr _ _ _ _ (by simp[hn]) fun g' pg h=>?_;subst hn;simp at h;obtain⟨rfl,rfl⟩:=h;exact⟨rfl,by omega⟩
theorem P0 {R:Addr->Value->Prop} {n g sz k len cap:Nat} (hn:φ.length=n) (hc:len<=cap) (hs:cap*k<=sz):bO R (φ++[some (g,sz+1)]) (.sl k n 0 len) (.slice (some ⟨g,0,none⟩) len cap):=by
 refine .sl _ _ _ _ _ _ _ (by simp[hn]) hc fun g' pg h=>?_;subst hn;simp at h;obtain⟨rfl,rfl⟩:=h;exact⟨fun _=>rfl,by omega⟩
theorem aag {R:Addr->Value->Prop} {ψ:dj} {n g sz k len cap:Nat} (hn:ψ.length=n) (hc:len<=cap) (hs:cap*k<=sz):bO R (ψ++[some (g,sz+1)]) (.sl k n 0 len) (.slice (some ⟨g,0,none⟩) len cap):=P0 hn hc hs

theorem V0 {t:TypeId} {zs:List AV} (fh:o.op=.alloc t) (hh:cj X φ w H) (hz:qZ P t zs=true):Ok P X φ w o a (.ptr H.length 0) (H++[some zs]):=by
 obtain⟨i,z,hi,hz,dI,_⟩:=vp (X:=X) (φ:=φ) (w:=w) hz;obtain⟨h1,h2⟩:=vZ hh (w1:=w) (arr:=z.cells) (e:=t) rfl rfl rfl rfl (by rw[dI.1]; simp) (dI.at (by simp));refine Ok.value ?_ (aah hh.len) h1 h2;simp[execOp,fh,Instr.alloc,ti hi hz,newVar,newRow]
theorem akA {t:TypeId} {x:Operand} {v:AV} (fh:o.op=.box t x) (hh:cj X φ w H) (r:bO (Rd X φ w) φ v (a.eval x)) (hs:bC v.cells=true) :
  Ok P X φ w o a (.ptr H.length 0) (H++[some v.cells]):=by
 obtain⟨dI,_⟩:=r.cs hs;obtain⟨h1,h2⟩:=vZ hh (w1:=w) (arr:=(a.eval x).cells) (e:=t) rfl rfl rfl rfl (by rw[dI.1]; simp) (dI.at (by simp));refine Ok.value ?_ (aah hh.len) h1 h2;simp[execOp,fh,Instr.box,newVar,newRow]

theorem amn {t:TypeId} {x:Operand} {y:E} {ag:Option Nat} {v:AV} {H':Heap} {fl:Fp} {call:Nat->List AV->Heap->Option (AV × Heap)} (fh:o.op=.load t x) (hh:cj X φ w H) (r:bO (Rd X φ w) φ (ev c env y) (a.eval x))
  (ha:nf P t=some ag) (hs:fO c call env H (.ld ag y)=some (v,H',fl)):Ok P X φ w o a v H':=by
 have go:∀{cs:List AV} {ad:Addr},a.eval x=.pointer (some ad)->Q6 X φ w cs ad->Fj ag cs=some v->Ok P X φ w o a v H:=by
  intro cs ad hx hp hv;obtain⟨u,h1,h2⟩:=P7 ha hv hp;exact Ok.quiet (by simp[execOp,fh,hx,Instr.loadAt,Instr.sureAddr,h1]) h2 hh
 simp only[fO] at hs;split at hs
 ·rename_i cs hc;split at hs
  ·rename_i u hu;simp at hs;obtain⟨rfl,rfl,rfl⟩:=hs;rw[hc] at r;obtain⟨ad,h1,h2⟩:=Q6.aad r;exact go h1 h2 hu
  ·cases hs
 ·rename_i b off hc;split at hs
  ·rename_i cs hb;split at hs
   ·rename_i u hu;simp at hs;obtain⟨rfl,rfl,rfl⟩:=hs;rw[hc] at r;obtain⟨g,sz,arr,e,h1,_,_,_,_,_,_,h2⟩:=Q6.V6 hh hb r;exact go h1 h2 hu
   ·cases hs
  ·cases hs
 ·cases hs

theorem gK {cs vs:List AV} {off:Nat} (h:off+vs.length<=cs.length):(j9 cs off vs).length=cs.length:=by
 unfold j9;simp only[bK,bw,eQ];omega
theorem af2 (l us:List Value) (off n i:Nat) (h:off+us.length<=n) (hn:n<=l.length) (hi:i<n) :
  (l.take off++us++l.drop (off+us.length))[i]?=((l.take n).take off++us++(l.take n).drop (off+us.length))[i]?:=by
 have e1:(l.take off).length=off:=by simp; omega
 have e2:((l.take n).take off).length=off:=by simp; omega
 by_cases h1:i<off
 ·rw[dJ,dJ,aq (by omega),aq (by omega),aT h1,aT h1,aT hi]
 ·by_cases h2:i<off+us.length
  ·have f1:i<(l.take off++us).length:=by rw[bK,e1]; omega
   have f2:i<((l.take n).take off++us).length:=by rw[bK,e2]; omega
   rw[aq f1,aq f2,aM (by omega),aM (by omega),e1,e2]
  ·have f1:(l.take off++us).length=off+us.length:=by rw[bK,e1]
   have f2:((l.take n).take off++us).length=off+us.length:=by rw[bK,e2]
   rw[aM (by omega),aM (by omega),f1,f2,bf,bf,aT (by omega)]
theorem IW (hh:cj X φ w H) {b off:Nat} {cs:List AV} (hb:aJ H b=some cs) {v:Value} (r:bO (Rd X φ w) φ (.ptr b off) v) {ds:List AV} {us:List Value} (dI:Cs X φ w ds us)
  (h1:∀u∈us,u.oneCell'=true) (qK:off+ds.length<=cs.length) :
  ∃ g w',v=.pointer (some ⟨g,off,none⟩)/\(storeCells ⟨g,off,none⟩ us).run P w=.ok () w'/\cj X φ w' (H.set b (some (j9 cs off ds)))/\fg φ w φ w':=by
 obtain⟨g,sz,arr,e,rfl,jK,hg,oV,hle,hX,hm,_⟩:=Q6.V6 hh hb r;have MV:=run_storeCells_at P g off e us 0 arr w hg (by rw[<-dI.1]; omega) h1;simp only[B3] at MV
 have EA:(arr.toList.take off++us++arr.toList.drop (off+us.length)).toArray.size=arr.size:=by
  simp only[vo,bK,bw,eQ,sS,<-dI.1]; omega
 have key:∀(i:Nat) (x:AV),(j9 cs off ds)[i]?=some x->∃u,(arr.toList.take off++us++arr.toList.drop (off+us.length)).toArray[i]?=some u/\bO (Rd X φ w) φ x u:=by
  intro i x hx
  have Ij:Cs X φ w (cs.take cs.length) (arr.toList.take cs.length):=by
   refine⟨by simp; omega,fun i c u hc hu=>?_⟩;have hi:i<cs.length:=by have:=ak hc; simp at this; omega
   rw[aT hi] at hc hu;obtain⟨u',h1,h2⟩:=hm i c hc;simp at hu;rw[h1] at hu;simp at hu;subst hu;exact h2
  rw[List.take_length] at Ij;have hov:=Ij.j9 dI off;obtain⟨u,hu,r⟩:=hov.get hx;refine⟨u,?_,r⟩;have hi:i<cs.length:=by have:=ak hx; rw[gK qK] at this; exact this
  have hul:=dI.1;simp only[As];rw[<-hu];exact af2 arr.toList us off cs.length i (by omega) (by simp; omega) hi
 obtain⟨k1,k2⟩:=hh.store (cs':=j9 cs off ds) (arr':=(arr.toList.take off++us++arr.toList.drop (off+us.length)).toArray) jK hg oV EA rfl hX
  (by rw[gK qK,EA]; omega) key
 exact⟨g,_,rfl,MV,k1,k2⟩
theorem adM {t:TypeId} {x y:Operand} {b off k:Nat} {cs:List AV} {v:AV} (fh:o.op=.store t x y) (hh:cj X φ w H) (hb:aJ H b=some cs) (hk:pF P t k=true)
  (rx:bO (Rd X φ w) φ (.ptr b off) (a.eval x)) (ry:bO (Rd X φ w) φ v (a.eval y)) (hl:v.cells.length=k) (qK:off+k<=cs.length) (hs:bC v.cells=true) :
  Ok P X φ w o a .undef (H.set b (some (j9 cs off v.cells))):=by
 obtain⟨dI,h1⟩:=ry.cs hs;obtain⟨g,w',hx,MV,k1,k2⟩:=IW (P:=P) hh hb rx dI h1 (by omega);refine Ok.skip ?_ k1 k2;unfold pF at hk;split at hk
 ·rename_i i hi;simp at hk;have oV:(a.eval y).cells.size=i.size:=by have:=dI.1; simp at this; omega
  simp[execOp,fh,hx,Instr.storeAt,Instr.sureAddr,storeVar,je hi,oV,MV]
 ·cases hk

/-! Composite literals -/
theorem LH (off:Nat):∀(l:List Value) (n:Nat) (arr:Array Value),
  ((l.zipIdx n).foldl (fun cs (p:Value × Nat)=>cs.setIfInBounds (off+p.2) p.1) arr).size=arr.size /\
  (off+n+l.length<=arr.size->((l.zipIdx n).foldl (fun cs (p:Value × Nat)=>cs.setIfInBounds (off+p.2) p.1) arr).toList=arr.toList.take (off+n)++l++arr.toList.drop (off+n+l.length))
 |[],n,arr=>by simp
 |v::r,n,arr=>by
   simp only[List.zipIdx_cons,List.foldl_cons];obtain⟨h1,h2⟩:=LH off r (n+1) (arr.setIfInBounds (off+n) v);refine⟨by rw[h1]; simp,fun qK=>?_⟩;simp only[cc] at qK;rw[h2 (by simp; omega)];apply dN;intro i;simp only[Array.toList_setIfInBounds,cc];by_cases h0:i<off+n
   ·rw[aq (by simp; omega),aq (by simp; omega),aq (by simp; omega),aq (by simp; omega),
     aT (by omega),aT h0,cQ (by omega)]
   ·by_cases h3:i=off+n
    ·subst h3
     rw[aq (by simp; omega),aq (by simp; omega),aq (by simp; omega),aM (by simp; omega),
      aT (by omega),List.getElem?_set_self (by simp; omega)]
     have e1:(arr.toList.take (off+n)).length=off+n:=by simp; omega
     rw[e1]; simp
    ·by_cases h4:i<off+n+(r.length+1)
     ·rw[aq (by simp; omega),aM (by simp; omega),aq (by simp; omega),aM (by simp; omega)];have e1:(arr.toList.take (off+n)).length=off+n:=by simp; omega
      have e2:((arr.toList.set (off+n) v).take (off+(n+1))).length=off+n+1:=by simp; omega
      rw[e1,e2,show i-(off+n)=(i-(off+n+1))+1 by omega,pq]
     ·rw[aM (by simp; omega),aM (by simp; omega),bf,bf,cQ (by simp; omega)];congr 1;simp only[bK,bw,List.length_set,sS,cc];omega
theorem abX (v:Value) (off:Nat) (arr:Array Value) (h:off+v.cells.size<=arr.size) :
  (v.cells.zipIdx.foldl (fun cs (p:Value × Nat)=>cs.setIfInBounds (off+p.2) p.1) arr).toList=arr.toList.take off++v.cells.toList++arr.toList.drop (off+v.cells.toList.length):=by
 have h2:=(LH off v.cells.toList 0 arr).2 (by simpa using h);rw[<-Array.foldl_toList,Array.toList_zipIdx];simpa using h2
theorem uD (he:qR X φ w env a.tmps) (hg:dX c X φ w) {place:Nat->Option (Nat × Nat)}:∀{ps:List (Nat × Operand)} {qs:List (Nat × Nat × E)} {zs cs:List AV} {arr:Array Value},
  tJ place ps qs=true->Cs X φ w zs arr.toList->qO c env zs qs=some cs->∃arr',Instr.fill place arr (ps.map fun p=>(p.1,a.eval p.2))=some arr'/\Cs X φ w cs arr'.toList
 |[],[],zs,cs,arr,_,hz,hf=>by simp[qO] at hf; subst hf; exact⟨arr,rfl,hz⟩
 |[],_::_,_,_,_,h,_,_=>by simp[tJ] at h
 |_::_,[],_,_,_,h,_,_=>by simp[tJ] at h
 |(i,x)::r,(off,sz,y)::s,zs,cs,arr,h,hz,hf=>by
   simp only[tJ,ae,decide_eq_true_eq] at h;obtain⟨⟨hp,hx⟩,OA⟩:=h;simp only[qO] at hf;split at hf
   ·rename_i hc;obtain⟨h1,h2,h3⟩:=hc;obtain⟨dI,_⟩:=(bZ he hg hx).cs h3;have oV:(a.eval x).cells.size=sz:=by have:=dI.1; simp at this; omega
    have FQ:zs.length=arr.size:=by simpa using hz.1
    have amy:=abX (a.eval x) off arr (by omega)
    have TX:Cs X φ w (j9 zs off (ev c env y).cells) ((a.eval x).cells.zipIdx.foldl (fun cs (p:Value × Nat)=>cs.setIfInBounds (off+p.2) p.1) arr).toList:=by
     rw[amy]; exact hz.j9 dI off
    obtain⟨arr',e1,e2⟩:=uD he hg OA TX hf;refine⟨arr',?_,e2⟩;simp only[dp,Instr.fill,hp];rw[if_neg (by simp[oV]; omega)];exact e1
   ·cases hf

theorem run_places (fs:List Field) (h:∀f∈fs,(P.info? f.type).isSome=true) :
  (fs.mapM (m:=Sem) fun f=>do pure (f.offset,<-sizeOf f.type)).run P w=.ok (fs.map fun f=>(f.offset,((P.info? f.type).map (·.size)).getD 0)) w:=by
 induction fs with
 |nil=>rfl
 |cons f r ih=>
   obtain⟨i,hi⟩:=aU.1 (h f (by simp));have ih':=ih fun g hg=>h g (by simp[hg]);simp only[List.mapM_cons,Sem.run_bind,je hi,Result.andThen_ok,Sem.run_pure,ih',dp,hi,cD,dY]
theorem adZ {t:TypeId} {ps:Array (Nat × Operand)} {qs:List (Nat × Nat × E)} {zs cs:List AV} (fh:o.op=.build t ps) (hh:cj X φ w H) (he:qR X φ w env a.tmps) (hg:dX c X φ w)
  (hz:qZ P t zs=true) (hu:(match P.underlying t with
  |some (.struct fs)=>(fs.toList.all fun f=>(P.info? f.type).isSome)&&tJ (ug P fs) ps.toList qs
  |some (.array _ e)=>match P.info? e with
    |some i=>tJ (fun j=>some (j*i.size,i.size)) ps.toList qs
    |none=>false
  |_=>false)=true) (hf:qO c env zs qs=some cs):Ok P X φ w o a (.agg cs) H:=by
 obtain⟨i,z,hi,hz,dI,_⟩:=vp (X:=X) (φ:=φ) (w:=w) hz;split at hu
 ·rename_i fs hut;simp only[ae,ph] at hu;obtain⟨arr',e1,e2⟩:=uD he hg hu.2 dI hf;refine Ok.quiet (v':=.agg arr') ?_ (.agg _ _ _ (by simpa using e2.1) fun i c v hc hv=>e2.2 i c v hc (by simpa using hv)) hh;have oi:=run_places (P:=P) (w:=w) fs.toList hu.1
  have hpl2:(fs.mapM (m:=Sem) fun f=>do pure (f.offset,<-sizeOf f.type)).run P w=.ok (fs.toList.map fun f=>(f.offset,((P.info? f.type).map (·.size)).getD 0)).toArray w:=by
   rw[<-Bp (xs:=fs),List.mapM_toArray];simp only[Sem.run_map,oi,Result.andThen_ok,Bp]
  have ak1:(fun j=>((fs.toList.map fun f=>(f.offset,((P.info? f.type).map (·.size)).getD 0)).toArray)[j]?)=ug P fs:=by
   funext j;simp only[As,cn,ff,ug];cases hfj:fs[j]? with
   |none=>rfl
   |some f=>
     obtain⟨i,hi⟩:=aU.1 (hu.1 f (Vm.2 (Array.mem_of_getElem? hfj)));simp[hi]
  simp only[execOp,fh,Instr.build,Sem.run_bind,ti hi hz,Result.andThen_ok,run_underlying hut,hpl2,ak1];have:(H8 (fun x=>(x.1,a.eval x.2)) ps).toList=ps.toList.map fun p=>(p.1,a.eval p.2):=by simp
  simp only[this,e1,Sem.run_pure,Result.andThen_ok]
 ·rename_i n e hut;split at hu
  ·rename_i ie hie;obtain⟨arr',e1,e2⟩:=uD he hg hu dI hf;refine Ok.quiet (v':=.agg arr') ?_ (.agg _ _ _ (by simpa using e2.1) fun i c v hc hv=>e2.2 i c v hc (by simpa using hv)) hh;have:(H8 (fun x=>(x.1,a.eval x.2)) ps).toList=ps.toList.map fun p=>(p.1,a.eval p.2):=by simp
   simp only[execOp,fh,Instr.build,Sem.run_bind,ti hi hz,Result.andThen_ok,run_underlying hut,je hie,this,e1,Sem.run_pure]
  ·cases hu
 ·cases hu

theorem XY (zs:List AV):∀(n i:Nat),i<n*zs.length->(rep zs n)[i]?=zs[i%zs.length]?
 |0,i,h=>by simp at h
 |n+1,i,h=>by
   rw[rep];by_cases hi:i<zs.length
   ·rw[aq hi,Nat.mod_eq_of_lt hi]
   ·rw[aM (by omega),XY zs n _ (by rw[cK] at h; omega),<-Nat.mod_eq_sub_mod (by omega)]
theorem nF (zs:List AV):∀n,(rep zs n).length=n*zs.length
 |0=>by simp[rep]
 |n+1=>by rw[rep,bK,nF zs n,cK]; omega
theorem acF {zs:List AV} (h:bC zs=true):∀n,bC (rep zs n)=true:=by
 have app:∀{a b:List AV},bC a=true->bC b=true->bC (a++b)=true:=by
  intro a
  induction a with
  |nil=>intro b _ hb; exact hb
  |cons x r ih=>intro b ha hb; simp only[bC,ae,List.cons_append] at *; exact⟨ha.1,ih ha.2 hb⟩
 intro n
 induction n with
 |zero=>rfl
 |succ n ih=>exact app h ih
theorem VK {zs:List AV} {z:Array Value} (h:Cs X φ w zs z.toList) {n m:Nat} (hm:n*z.size<=m) {arr:Array Value} (hz:arr.size=m) (ha:∀i,i<m->arr[i]?=some (z[i%z.size]!)) :
  ∀ (i:Nat) (c:AV),(rep zs n)[i]?=some c->∃u,arr[i]?=some u/\bO (Rd X φ w) φ c u:=by
 intro i c hc;have FQ:zs.length=z.size:=by simpa using h.1
 have hi:i<n*zs.length:=by have:=ak hc; rwa [nF] at this
 rw[XY zs n i hi] at hc;rw[FQ] at hc hi;refine⟨_,ha i (by omega),?_⟩;obtain⟨u,hu,r⟩:=h.get hc;simp at hu;rw[getElem!_def,hu];exact r
theorem abI {t:TypeId} {n k:Nat} {ps:Array (Nat × Operand)} {qs:List (Nat × Nat × E)} {zs cs:List AV} (fh:o.op=.buildSlice t n ps) (hh:cj X φ w H) (he:qR X φ w env a.tmps) (hg:dX c X φ w)
  (hk:jt P t k=true) (hz:iT P t zs=true) (hn:n*k<=16777216) (hq:tJ (fun j=>some (j*k,k)) ps.toList qs=true) (hf:qO c env (rep zs n) qs=some cs) :
  Ok P X φ w o a (.sl k H.length 0 n) (H++[some cs]):=by
 obtain⟨e,i,z,hu,hi,wi,hk0,hby,TV,U4⟩:=jA hk;simp only[iT,hu] at hz;obtain⟨i',z',wS,MS,dI,_⟩:=vp (X:=X) (φ:=φ) (w:=w) hz;rw[hi] at wS;simp at wS;subst wS;rw[TV] at MS;simp at MS;subst MS;have FQ:zs.length=k:=by have:=dI.1; simp at this; omega
 have Ij:Cs X φ w (rep zs n) ((Bq (n*k)).map (z.cells[·%z.cells.size]!)).toList:=by
  refine⟨by rw[nF,FQ]; simp,fun j c v hc hv=>?_⟩;obtain⟨u,h1,h2⟩:=VK dI (n:=n) (m:=n*k) (by rw[U4]; omega) (arr:=(Bq (n*k)).map (z.cells[·%z.cells.size]!)) (by simp) (fun i hi=>by simp[hi]) j c hc;rw[ff,h1] at hv;simp at hv;subst hv;exact h2
 obtain⟨arr',e1,e2⟩:=uD he hg hq Ij hf
 have oV:arr'.size=n*k:=by
  have fl:∀{ps:List (Nat × Nat × E)} {zs cs:List AV},qO c env zs ps=some cs->cs.length=zs.length:=by
   intro ps
   induction ps with
   |nil=>intro zs cs h; simp[qO] at h; rw[h]
   |cons p r ih=>
     intro zs cs h;obtain⟨o,s,y⟩:=p;simp only[qO] at h;split at h
     ·rename_i hc; rw[ih h,gK (by omega)]
     ·cases h
  have h1:=fl hf;have h2:=e2.1;simp only[sS] at h2;rw[<-h2,h1,nF,FQ]
 obtain⟨h1,h2⟩:=vZ hh (w1:=w) (arr:=arr') (e:=e) rfl rfl rfl rfl (by rw[e2.1]; simp) (e2.at (by simp));refine Ok.value ?_ (P0 hh.len (aO n) (by omega)) h1 h2;have yy:(H8 (fun x=>(x.1,a.eval x.2)) ps).toList=ps.toList.map fun p=>(p.1,a.eval p.2):=by simp
 have Q0 : ¬ (n * k > 2 ^ 24) := by have : (2:Nat) ^ 24 = 16777216 := by decide
                                    omega
 have hzero:(if n*i.size=0 then (pure #[]:Sem (Array Value)) else do pure (<- zeroValue e).cells).run P w=.ok (if n*k=0 then #[] else z.cells) w:=by
  rw[wi];split<;>simp[ti hi TV]
 have ak5:(Bq (n*k)).map ((if n*k=0 then #[] else z.cells)[·%(if n*k=0 then #[] else z.cells).size]!)=(Bq (n*k)).map (z.cells[·%z.cells.size]!):=by
  by_cases h0:n*k=0
  ·simp[h0]
  ·simp[h0]
 simp only[execOp,fh,Instr.buildSlice,Sem.run_bind,run_underlying hu,Result.andThen_ok,je hi,wi,Sem.run_ite,Q0,if_false];rw[wi] at hzero;simp only[Sem.run_ite,Sem.run_bind,Sem.run_pure,ti hi TV,Result.andThen_ok] at hzero ⊢;have e1':=e1;rw[<-ak5,<-yy] at e1';split
 ·rename_i h0;simp only[h0,if_true] at e1' ⊢;simp only[Result.andThen_ok,Array.range_zero',Array.map_empty] at e1' ⊢;rw[show (Instr.fill (fun i=>some (i*k,k)) #[] (H8 (fun x=>(x.1,a.eval x.2)) ps).toList)=some arr' from e1'];simp[newRow]
 ·rename_i h0;simp only[h0,if_false,Result.andThen_ok] at e1' ⊢;rw[show (Instr.fill (fun i=>some (i*k,k)) ((Bq (n*k)).map (z.cells[·%z.cells.size]!)) (H8 (fun x=>(x.1,a.eval x.2)) ps).toList)=some arr' from e1'];simp[newRow]
end
end Go.Am

/- What one operation of the dump does: numbers, tests, slices, append. -/
namespace Go.Am
section
variable {P:Program} {c:eI} {X:Nat->Prop} {φ:dj} {w:World} {env:Env} {H:Heap} {a:Act} {o:Oper}

theorem agE {x y z:Operand} {t:Bool} {u v:AV} (fh:o.op=.pick x y z) (hh:cj X φ w H) (r:bO (Rd X φ w) φ (.bool t) (a.eval x)) (ru:bO (Rd X φ w) φ u (a.eval y)) (rv:bO (Rd X φ w) φ v (a.eval z)) :
  Ok P X φ w o a (if t then u else v) H:=by
 have hx:=oE r;cases t
 ·exact Ok.quiet (v':=a.eval z) (by simp[execOp,fh,hx,asBool]) (by simpa using rv) hh
 ·exact Ok.quiet (v':=a.eval y) (by simp[execOp,fh,hx,asBool]) (by simpa using ru) hh
theorem XX {R:Addr->Value->Prop} {s:ByteArray} {v:Value} (h:bO R φ (.str s) v):v=.string s:=by cases h; rfl
theorem akB {op:BinOp} {t t':TypeId} {x y:Operand} {u v r:AV} (fh:o.op=.binOp op t x y t') (hh:cj X φ w H) (ru:bO (Rd X φ w) φ u (a.eval x)) (rv:bO (Rd X φ w) φ v (a.eval y)) (hr:sP op u v=some r) :
  Ok P X φ w o a r H:=by
 have ye:=hr;unfold sP at ye;split at ye
 ·rename_i k n k' n';have hx:=iq ru;have hy:=iq rv;obtain⟨v',h1,h2⟩:=af6 (P:=P) (w:=w) (t:=t) hr;exact Ok.quiet (v':=v') (by simp[execOp,fh,hx,hy,eqGuard_at_int,h1]) (h2 _ _) hh
 ·rename_i s1 s2;split at ye
  case h_2=>cases ye
  split at ye
  case isFalse=>cases ye
  rename_i hl;simp only[af] at ye;subst ye;have hx:=XX ru;have hy:=XX rv;exact Ok.quiet (v':=.string (s1++s2)) (by simp[execOp,fh,hx,hy,eqGuard_at_string,binOp,run_string_add_sum w s1 s2 (by omega)]) (.str _ _) hh
 ·cases ye

theorem VF (d:Nat) {t e:TypeId} (h:P.underlying t=some (.slice e)) (x:Option Addr) (n m:Nat):(Op.equalIn (d+1) t (.slice x n m) (.slice none 0 0)).run P w=.ok x.isNone w:=by
 cases x<;>simp[Op.equalIn,run_underlying h]
theorem Rq (d:Nat) {t e:TypeId} (h:P.underlying t=some (.pointer e)) (x:Option Addr):(Op.equalIn (d+1) t (.pointer x) (.pointer none)).run P w=.ok x.isNone w:=by
 cases x<;>simp[Op.equalIn,run_underlying h]
theorem VG (d:Nat) {t:TypeId} {ps rs:Array TypeId} {vr:Bool} (h:P.underlying t=some (.func ps rs vr)) (f:Fn) (x y:Array Value):(Op.equalIn (d+1) t (.func f x y) .nilFunc).run P w=.ok false w:=by
 simp[Op.equalIn,run_underlying h]
theorem Rr (d:Nat) {t:TypeId} {ps rs:Array TypeId} {vr:Bool} (h:P.underlying t=some (.func ps rs vr)):(Op.equalIn (d+1) t .nilFunc .nilFunc).run P w=.ok true w:=by
 simp[Op.equalIn,run_underlying h]
theorem af5 {op:BinOp} {ng:Bool} {t:TypeId} {x y:Operand} {u v:Value} {e:Bool} (ho:eqOp op ng=true) (hg:(eqGuard op t x y u v).run P w=.ok () w) (hb:∀op',binOp .eql t u v=(do pure (.bool (<- Op.equal t u v)))/\(op'=BinOp.neq->binOp .neq t u v=(do pure (.bool (!(<- Op.equal t u v))))))
  (h:(Op.equalIn 10000 t u v).run P w=.ok e w):(do eqGuard op t x y u v; binOp op t u v).run P w=.ok (.bool (if ng then !e else e)) w:=by
 have h':(Op.equal t u v).run P w=.ok e w:=by unfold Op.equal Op.maxDepth; exact h
 cases op<;>simp[eqOp] at ho
 ·subst ho;simp only[Sem.run_bind,hg,Result.andThen_ok,(hb .eql).1,h',Sem.run_pure];simp
 ·subst ho;simp only[Sem.run_bind,hg,Result.andThen_ok,(hb .neq).2 rfl,h',Sem.run_pure];simp
theorem ok_eq {op:BinOp} {ng:Bool} {et:Et} {t t':TypeId} {x y:Operand} {u v:AV} {e:Bool} (fh:o.op=.binOp op t x y t') (hh:cj X φ w H) (ho:eqOp op ng=true) (hc:LZ P t et=true) (ru:bO (Rd X φ w) φ u (a.eval x)) (rv:bO (Rd X φ w) φ v (a.eval y)) (hr:eqA et u v=some e) :
  Ok P X φ w o a (.bool (if ng then !e else e)) H:=by
 have fin:∀{p q:Value},a.eval x=p->a.eval y=q->(eqGuard op t x y p q).run P w=.ok () w ->
   (∀op',binOp .eql t p q=(do pure (.bool (<- Op.equal t p q)))/\(op'=BinOp.neq->binOp .neq t p q=(do pure (.bool (!(<- Op.equal t p q))))))->(Op.equalIn 10000 t p q).run P w=.ok e w ->
   Ok P X φ w o a (.bool (if ng then !e else e)) H:=by
  intro p q hp hq hg hb h;have:=af5 (x:=x) (y:=y) ho hg hb h;refine Ok.quiet ?_ (.bool _ _) hh;simp only[execOp,fh,hp,hq,Sem.run_bind,Result.andThen_ok,Sem.run_pure] at this ⊢;rw[this];rfl
 unfold eqA at hr;split at hr
 ·rename_i b b';simp at hr;subst hr;have hx:=oE ru;have hy:=oE rv;simp only[LZ] at hc;split at hc
  ·rename_i hu;refine fin hx hy (by rw[eqGuard_at_bool]; rfl) (fun _=>⟨by simp[binOp],fun _=>by simp[binOp]⟩) ?_;exact run_equalIn_bool w 9999 t b b' hu
  ·cases hc
 ·rename_i l xs ys;generalize hx:a.eval x=p at ru;generalize hy:a.eval y=q at rv;cases ru with
  |agg _ _ vx FV hrx=>
    cases rv with
    |agg _ _ vy FU hry=>
      simp only[LZ] at hc;split at hc
      ·rename_i fs hu;simp only[ae,bJ] at hc;obtain⟨⟨Va,IJ⟩,hc3⟩:=hc;have hfo:P.fieldsOf t=fs:=by simp[Program.fieldsOf,hu]
       refine fin hx hy (run_eqGuard_agg w op t x y vx vy IJ) (fun _=>⟨by simp[binOp],fun _=>by simp[binOp]⟩) ?_;rw[show (10000:Nat)=9999+1 from rfl,run_equalIn_struct w 9999 t vx vy (by rw[hu,hfo]) Va,hfo];exact wu 9998 fs.toList l 0 xs ys vx vy e hc3 (by simpa using hr) FV FU hrx hry
      ·cases hc
 ·generalize hy:a.eval y=q at rv;cases rv;simp only[LZ] at hc;split at hc
  ·rename_i el hu
   have sl:∀{ad:Option Addr} {n m:Nat},a.eval x=.slice ad n m->ad.isNone=e->Ok P X φ w o a (.bool (if ng then !e else e)) H:=by
    intro ad n m hx he;subst he;exact fin hx hy (by rw[eqGuard_at_slice]; rfl) (fun _=>⟨by simp[binOp],fun _=>by simp[binOp]⟩) (VF 9999 hu ad n m)
   generalize hx:a.eval x=p at ru;cases ru<;>simp[isNil] at hr
   case du=>exact sl hx (by simpa using hr)
   case sl=>exact sl hx (by simpa using hr)
   case yd xs _ _ _ _ _ _ _ _ _=>
    cases xs<;>simp[isNil] at hr
    exact sl hx (by simpa using hr)
  ·cases hc
 ·generalize hy:a.eval y=q at rv;cases rv;simp only[LZ] at hc;split at hc
  ·rename_i el hu
   have pt:∀{ad:Option Addr},a.eval x=.pointer ad->ad.isNone=e->Ok P X φ w o a (.bool (if ng then !e else e)) H:=by
    intro ad hx he;subst he;exact fin hx hy (by rw[eqGuard_at_pointer]; rfl) (fun _=>⟨by cases ad<;>simp[binOp],fun _=>by cases ad<;>simp[binOp]⟩) (Rq 9999 hu ad)
   generalize hx:a.eval x=p at ru;cases ru<;>simp[isNil] at hr
   case fN=>exact pt hx (by simpa using hr)
   case ptr=>exact pt hx (by simpa using hr)
   case dy=>exact pt hx (by simpa using hr)
  ·cases hc
 ·generalize hy:a.eval y=q at rv;cases rv;simp only[LZ] at hc;split at hc
  ·rename_i ps rs vr hu;generalize hx:a.eval x=p at ru;cases ru
   case fS=>simp[isNil] at hr; subst hr; exact fin hx hy (by rw[eqGuard_at_nilFunc]; rfl) (fun _=>⟨by simp[binOp],fun _=>by simp[binOp]⟩) (Rr 9999 hu)
   case func f as va bs vb hyy _ _ _ _=>simp[isNil,hyy] at hr; subst hr; exact fin hx hy (by rw[eqGuard_at_func]; rfl) (fun _=>⟨by simp[binOp],fun _=>by simp[binOp]⟩) (VG 9999 hu _ _ _)
   all_goals (simp[isNil,Ew] at hr; done)
  ·cases hc
 ·cases hr
theorem amm {op:UnOp} {t:TypeId} {x:Operand} {u r:AV} (fh:o.op=.unOp op t x) (hh:cj X φ w H) (ru:bO (Rd X φ w) φ u (a.eval x)) (hr:Vr op u=some r):Ok P X φ w o a r H:=by
 unfold Vr at hr;split at hr
 ·have hx:=iq ru;simp at hr; subst hr;exact Ok.quiet (v':=.int _ _) (by simp[execOp,fh,hx,Op.unary,Op.intArith]) (.int _ _ _) hh
 ·have hx:=iq ru;simp at hr; subst hr;exact Ok.quiet (by simp[execOp,fh,hx,Op.unary,intBits_xor]) (.int _ _ _) hh
 ·have hx:=oE ru;simp at hr; subst hr;exact Ok.quiet (by simp[execOp,fh,hx,Op.unary]) (.bool _ _) hh
 ·cases hr
theorem aky {s d:TypeId} {x:Operand} {k k':IntKind} {n:Int} (fh:o.op=.convert s d x) (hh:cj X φ w H) (hs:(P.underlying s).isSome=true) (hd:P.underlying d=some (.int k)) (ru:bO (Rd X φ w) φ (.int k' n) (a.eval x)) :
  Ok P X φ w o a (.int k (k.wrap n)) H:=by
 have hx:=iq ru;obtain⟨d',hd'⟩:=aU.mp hs;exact Ok.quiet (by simp[execOp,fh,hx,convert,run_underlying hd',run_underlying hd,Conv.intToInt]) (.int _ _ _) hh
theorem akm {fn:Fn} {as bs:Array Operand} {xs ys:List E} (fh:o.op=.makeFunc fn as bs) (hh:cj X φ w H) (he:qR X φ w env a.tmps) (hg:dX c X φ w) (ha:jB as.toList xs=true) (hb:jB bs.toList ys=true) (hy:Ew fn=false) :
  Ok P X φ w o a (.func fn (IM c env xs) (IM c env ys)) H:=by
 obtain⟨l1,h1⟩:=pY he hg ha;obtain⟨l2,h2⟩:=pY he hg hb;refine Ok.quiet (v':=.func fn (as.map a.eval) (bs.map a.eval)) (by simp[execOp,fh,Instr.makeFunc]) (.func _ _ _ _ _ _ hy (by simp[l1]) (by simp[l2]) (fun i c v hc hv=>h1 i c v hc ?_) (fun i c v hc hv=>h2 i c v hc ?_)) hh
 ·simpa using hv
 ·simpa using hv
theorem akl {t:TypeId} {k:Nat} {zs:List AV} {x y:Operand} {k1 k2:IntKind} {l cp:Int} (fh:o.op=.makeSlice t x y) (hh:cj X φ w H) (hk:jt P t k=true) (hz:iT P t zs=true)
  (rx:bO (Rd X φ w) φ (.int k1 l) (a.eval x)) (ry:bO (Rd X φ w) φ (.int k2 cp) (a.eval y)) (h0:0<=l) (h1:l<=cp) (h2:cp<=(lU:Int)) :
  Ok P X φ w o a (.sl k H.length 0 l.toNat) (H++[some (rep zs l.toNat)]):=by
 obtain⟨e,i,z,hu,hi,wi,hk0,hby,TV,U4⟩:=jA hk;simp only[iT,hu] at hz;obtain⟨i',z',wS,MS,dI,_⟩:=vp (X:=X) (φ:=φ) (w:=w) hz;rw[hi] at wS;simp at wS;subst wS;rw[TV] at MS;simp at MS;subst MS;have FQ:zs.length=k:=by have:=dI.1; simp at this; omega
 have hx:=iq rx;have hy:=iq ry;have hL:(lU:Int)=4294967296:=rfl
 have hb:(i.bytes:Int)*cp<=281474976710656:=by
  have h3:(i.bytes:Int)*cp<=1024*4294967296:=Int.mul_le_mul (by omega) (by omega) (by omega) (by omega);omega
 have oW:=run_make (P:=P) w t e i z hu hi TV k1 k2 l cp h0 h1 hb (by omega);have hlc:l.toNat<=cp.toNat:=by omega
 have Ih:l.toNat * k<=cp.toNat * k:=bS _ hlc;have hms:(madeCells z.cells (cp.toNat * i.size)).size=cp.toNat * k:=by rw[size_madeCells,wi]
 obtain⟨q1,q2⟩:=vZ hh (w1:=w) (arr:=madeCells z.cells (cp.toNat * i.size)) (e:=e) (cs:=rep zs l.toNat) rfl rfl rfl rfl (by rw[nF,hms,FQ]; exact Ih)
  (VK dI (m:=cp.toNat * k) (by rw[U4]; exact Ih) hms (fun j hj=>by rw[wi]; simp[madeCells,hj]))
 refine Ok.value (v':=.slice (some ⟨w.heap.size,0,none⟩) l.toNat cp.toNat) ?_ (P0 hh.len hlc (by rw[hms]; exact aO _)) q1 q2;simp only[execOp,fh,hx,hy,Sem.run_bind,oW,Result.andThen_ok,Sem.run_pure]

theorem afz {x:AV} {hi n:Nat} (h:bnd x hi=some n):∃k i,x=.int k i/\0<=i/\i<=(hi:Int)/\n=i.toNat:=by
 unfold bnd at h;split at h
 ·rename_i k i;split at h
  ·rename_i hc; simp at h; exact⟨k,i,rfl,hc.1,hc.2,h.symm⟩
  ·cases h
 ·cases h
theorem zT {x:AV} {len j:Nat} (h:idx x len=some j):∃k i,x=.int k i/\0<=i/\i<(len:Int)/\j=i.toNat/\j<len:=by
 unfold idx at h;split at h
 ·rename_i k i;split at h
  ·rename_i hc; simp at h; exact⟨k,i,rfl,hc.1,hc.2,h.symm,by omega⟩
  ·cases h
 ·cases h
theorem run_sliceBound {k:IntKind} {i:Int} {y:Nat} {cd:BoundsCode} (h0:0<=i) (h1:i<=(y:Int)):(Instr.sliceBound (.int k i) y cd).run P w=.ok i.toNat w:=by
 simp[Instr.sliceBound,asIntOf,h0,h1]
theorem yT (he:qR X φ w env a.tmps) (hg:dX c X φ w) {x:Operand} {y:E} {n m cap:Nat} {cd:BoundsCode} (hx:cY x y=true) (hn:n<=cap) (h:bnd (ev c env y) n=some m) :
  (Instr.sliceBound (a.eval x) cap cd).run P w=.ok m w/\m<=n:=by
 obtain⟨k,i,e1,e2,e3,e4⟩:=afz h;have r:=bZ (a:=a) he hg hx;rw[e1] at r;rw[iq r,e4];exact⟨run_sliceBound e2 (by omega),by omega⟩
theorem Je (he:qR X φ w env a.tmps) (hg:dX c X φ w) {lo hi:Option Operand} {lo' wS:Option E} {n cap h l:Nat} (hlo:tM lo lo'=true) (hhi:tM hi wS=true) (hn:n<=cap)
  (hh:EW c env n n wS=some h) (hl:EW c env 0 h lo'=some l):(Instr.sliceBounds true n cap (lo.map a.eval) (hi.map a.eval) none).run P w=.ok (l,h,cap) w/\l<=h/\h<=n:=by
 cases lo<;>cases lo'<;>simp only[tM] at hlo<;>try (cases hlo; done)
 all_goals
  cases hi<;>cases wS<;>simp only[tM] at hhi<;>try (cases hhi; done)
 all_goals simp only[EW] at hh hl
 ·simp at hh hl;subst hh; subst hl;exact⟨by simp[Instr.sliceBounds],by omega,aO _⟩
 ·obtain⟨h1,h2⟩:=yT (P:=P) (cd:=.sliceAcap) he hg hhi hn hh;simp at hl;subst hl;exact⟨by simp[Instr.sliceBounds,h1],by omega,h2⟩
 ·simp at hh;subst hh;obtain⟨h1,h2⟩:=yT (P:=P) (cd:=.sliceB) he hg hlo (aO _) hl;exact⟨by simp[Instr.sliceBounds,h1],h2,aO _⟩
 ·obtain⟨h1,h2⟩:=yT (P:=P) (cd:=.sliceAcap) he hg hhi hn hh;obtain⟨h3,h4⟩:=yT (P:=P) (cd:=.sliceB) he hg hlo (aO _) hl;exact⟨by simp[Instr.sliceBounds,h1,h3],h4,h2⟩
theorem af3 {t e:TypeId} {i:TypeInfo} (hu:P.underlying t=some (.slice e)) (hi:P.info? e=some i) {ad:Option Addr} {n cap l h:Nat} {lo wS:Option Value} (hb:(Instr.sliceBounds true n cap lo wS none).run P w=.ok (l,h,cap) w) :
  (Instr.sliceAt t (.slice ad n cap) lo wS none).run P w=.ok (.slice (if cap=l then ad else ad.map (·.add (l*i.size))) (h-l) (cap-l)) w:=by
 simp only[Instr.sliceAt,Instr.slice,Sem.run_bind,run_underlying hu,Result.andThen_ok,hb,je hi,Sem.run_pure]
theorem akj {t:TypeId} {k:Nat} {x:Operand} {y:E} {lo hi:Option Operand} {lo' wS:Option E} {v:AV} {H':Heap} {fl:Fp} {call:Nat->List AV->Heap->Option (AV × Heap)} (fh:o.op=.slice t x lo hi none) (hh:cj X φ w H) (he:qR X φ w env a.tmps) (hg:dX c X φ w)
  (hk:jt P t k=true) (hx:cY x y=true) (hlo:tM lo lo'=true) (hhi:tM hi wS=true) (hs:fO c call env H (.Fc k y lo' wS)=some (v,H',fl)):Ok P X φ w o a v H':=by
 obtain⟨e,i,z,hu,WB,wi,hk0,hby,TV,U4⟩:=jA hk;have r:=bZ (a:=a) he hg hx;simp only[fO] at hs;split at hs
 case h_2=>cases hs
 rename_i n hn;split at hs
 case h_2=>cases hs
 rename_i h hhv;split at hs
 case h_2=>cases hs
 rename_i l hlv
 have fin:∀{ad:Option Addr} {cap:Nat},a.eval x=.slice ad n cap->n<=cap->l<=h->h<=n->(l<=h->h<=n->bO (Rd X φ w) φ v (.slice (if cap=l then ad else ad.map (·.add (l*k))) (h-l) (cap-l)))->H'=H->Ok P X φ w o a v H':=by
  intro ad cap Vb hnc _ _ hr hH;obtain⟨h1,h2,h3⟩:=Je (P:=P) he hg hlo hhi hnc hhv hlv;have:=af3 (P:=P) hu WB (ad:=ad) h1;rw[wi] at this;subst hH;exact Ok.quiet (by simp only[execOp,fh,Vb,Iq,Sem.run_bind,this,Result.andThen_ok,Sem.run_pure]) (hr h2 h3) hh
 have le:∀cap,n<=cap->l<=h/\h<=n:=fun cap hc=>(Je (P:=P) he hg hlo hhi hc hhv hlv).2;obtain⟨hlh,hhn⟩:=le n (aO _);generalize hy:ev c env y=yv at hs r hn;cases yv<;>simp only[lenA,af] at hn<;>try (cases hn; done)
 ·subst hn;simp at hs;obtain⟨rfl,rfl,rfl⟩:=hs;generalize Vb:a.eval x=ax at r;cases r;have hh0:h=0:=by omega
  have hl0:l=0:=by omega
  subst hh0; subst hl0;exact fin Vb (aO _) (aO _) (aO _) (fun _ _=>by simp; exact .du _) rfl
 ·rename_i k' xs;simp only at hs;split at hs
  case isFalse=>cases hs
  rename_i wh;subst wh;simp at hs;obtain⟨rfl,rfl,rfl⟩:=hs;generalize Vb:a.eval x=ax at r;cases r with
  |yd _ _ _ ad n' cap u Q0 iC hkc hur hr=>
    subst hn;subst Q0;refine fin Vb iC hlh hhn (fun _ _=>?_) rfl;have hlen:((xs.take h).drop l).length=h-l:=by simp; omega
    by_cases II:cap=l
    ·have h0:(xs.take h).drop l=[]:=eC (by omega);rw[if_pos II,h0];refine .yd _ _ _ _ _ _ u (by simp; omega) (by omega) (by simp) (fun i j x c hx=>by simp at hx) (fun i j x c hx=>by simp at hx)
    ·rw[if_neg II]
     have get:∀(i:Nat) (x:AV),((xs.take h).drop l)[i]?=some x->xs[l+i]?=some x:=by
      intro i x hx;rw[bf,bP] at hx;split at hx
      ·exact hx
      ·cases hx
     refine .yd _ _ _ _ _ _ (fun i j=>u (l+i) j) hlen.symm (by omega) (fun x hx=>?_) (fun i j x c hx hc=>?_) (fun i j x c hx hc=>hr (l+i) j x c (get i x hx) hc)
     ·obtain⟨i,hi⟩:=bE hx;exact hkc x (bn (get i x hi))
     ·have:=hur (l+i) j x c (get i x hx) hc;rw[Addr.add_add]
      rwa [show l*k'+(i*k'+j)=(l+i)*k'+j by rw[cK]; omega]
  |lx=>
    simp at hn;subst hn;have hh0:h=0:=by omega
    have hl0:l=0:=by omega
    subst hh0; subst hl0;exact fin Vb (aO _) (aO _) (aO _) (fun _ _=>by simp; exact .lx _ _) rfl
 ·rename_i k' b off len;simp only at hs;split at hs
  case isFalse=>cases hs
  rename_i wh;subst wh;simp at hs;obtain⟨rfl,rfl,rfl⟩:=hs;subst hn;generalize Vb:a.eval x=ax at r;cases r with
  |sl _ _ _ _ _ ad cap hb hc hp=>
    refine fin Vb hc hlh hhn (fun _ _=>?_) rfl;have e:(if cap=l then (some ad:Option Addr) else Option.map (·.add (l*k')) (some ad))=some (if cap=l then ad else ad.add (l*k')):=by split<;>simp
    rw[e];refine .sl _ _ _ _ _ _ _ hb (by omega) fun g sz hg=>?_;obtain⟨h1,h2⟩:=hp g sz hg;have hmul:l*k'+(cap-l)*k'=cap*k':=by rw[<-cK]; congr 1; omega
    refine⟨fun h0=>?_,by omega⟩;rw[if_neg (by omega),h1 (by omega),Addr.ju]

theorem Q6.drop {cs:List AV} {ad:Addr} (h:Q6 X φ w cs ad) (n:Nat):Q6 X φ w (cs.drop n) (ad.add n):=by
 intro j x hx;rw[bf] at hx;rw[Addr.add_add];exact h _ _ hx
theorem OM {cs:List AV} {v:Value} (h:bO (Rd X φ w) φ (.dy cs) v) (n:Nat):∃ad,v=.pointer (some ad)/\bO (Rd X φ w) φ (.dy (cs.drop n)) (.pointer (some (ad.add n))):=by
 cases h with
 |dy _ _ ad u hu h=>
   refine⟨ad,rfl,.dy _ _ _ (fun j=>u (n+j)) (fun j c hc=>?_) (fun j c hc=>?_)⟩
   ·rw[bf] at hc;rw[Addr.add_add];exact hu _ _ hc
   ·rw[bf] at hc;exact h _ _ hc
theorem ZH {b off:Nat} {v:Value} (h:bO (Rd X φ w) φ (.ptr b off) v) (n:Nat):∃ad,v=.pointer (some ad)/\bO (Rd X φ w) φ (.ptr b (off+n)) (.pointer (some (ad.add n))):=by
 cases h with
 |ptr _ _ _ ad hb h=>
   refine⟨ad,rfl,.ptr _ _ _ _ hb fun g sz hg=>?_⟩;obtain⟨rfl,h0⟩:=h g sz hg;exact⟨by rw[Addr.ju],h0⟩

theorem acw (he:qR X φ w env a.tmps) (hg:dX c X φ w) {hi:Option Operand} {wS:Option E} {n h:Nat} (hhi:tM hi wS=true) (hh:EW c env n n wS=some h):(Instr.sliceBounds false n n none (hi.map a.eval) none).run P w=.ok (0,h,n) w/\h<=n:=by
 cases hi<;>cases wS<;>simp only[tM] at hhi<;>try (cases hhi; done)
 all_goals simp only[EW] at hh
 ·simp at hh;subst hh;exact⟨by simp[Instr.sliceBounds],aO _⟩
 ·obtain⟨h1,h2⟩:=yT (P:=P) (cd:=.sliceAlen) he hg hhi (aO _) hh;exact⟨by simp[Instr.sliceBounds,h1],h2⟩
theorem akC {t:TypeId} {n:Nat} {x:Operand} {y:E} {hi:Option Operand} {wS:Option E} {v:AV} {H':Heap} {fl:Fp} {call:Nat->List AV->Heap->Option (AV × Heap)} (fh:o.op=.slice t x none hi none) (hh:cj X φ w H) (he:qR X φ w env a.tmps) (hg:dX c X φ w) (hhi:tM hi wS=true) (r:bO (Rd X φ w) φ (ev c env y) (a.eval x))
  (hk:(match P.underlying t with
  |some (.array n' e)=>decide (n=n')&&pF P e 1
  |_=>false)=true) (hs:fO c call env H (.Na n y wS)=some (v,H',fl)):Ok P X φ w o a v H':=by
 split at hk
 case h_2=>cases hk
 rename_i n' e hu;simp only[ae,decide_eq_true_eq] at hk;obtain⟨rfl,oV⟩:=hk;unfold pF at oV;split at oV
 case h_2=>cases oV
 rename_i i WB;simp only[fO] at hs;split at hs
 case h_2=>cases hs
 rename_i m hm;obtain⟨bd,E5⟩:=acw (P:=P) he hg hhi hm;split at hs
 case h_3=>cases hs
 case h_2=>
  rename_i b off hy;split at hs
  case h_2=>cases hs
  rename_i cs hb;split at hs
  case isFalse=>cases hs
  rename_i hc;simp at hs;obtain⟨rfl,rfl,rfl⟩:=hs;rw[hy] at r;generalize Vb:a.eval x=ax at r;cases r with
  |ptr _ _ _ ad hbl hp=>
    have e0:(if n=0 then ad else ad.add (0*i.size))=ad:=by
     split
     ·rfl
     ·simp[Addr.add]
    have run:(execOp a.eval o).run P w=.ok (.value (.slice (some ad) m n)) w:=by
     simp only[execOp,fh,Vb,Iq,Instr.sliceAt,Instr.sureAddr,Sem.run_bind,run_underlying hu,Result.andThen_ok,bd,je WB,Sem.run_pure,e0,Vg]
    refine Ok.quiet run ?_ hh;obtain⟨g,sz,arr,e,h1,h2,h3,h4,_⟩:=hh.cat hb fun g sz hg=>(hp g sz hg).2;refine .sl _ _ _ _ _ _ _ hbl E5 fun g' pg hg=>?_;rw[h1] at hg;simp only[af,aC] at hg;obtain⟨rfl,rfl⟩:=hg;exact⟨fun _=>(hp _ _ h1).1,by omega⟩
 rename_i cs hy;split at hs
 case isFalse=>cases hs
 rename_i hc;obtain⟨Va,rfl,IJ⟩:=hc;have hc:m<=cs.length/\bC (cs.take m)=true:=⟨Va,IJ⟩;simp at hs;obtain⟨rfl,rfl,rfl⟩:=hs;rw[hy] at r;generalize Vb:a.eval x=ax at r;cases r with
 |dy _ _ ad u MU hr=>
   have e0:(if m=0 then ad else ad.add (0*i.size))=ad:=by
    split
    ·rfl
    ·simp[Addr.add]
   have run:(execOp a.eval o).run P w=.ok (.value (.slice (some ad) m m)) w:=by
    simp only[execOp,fh,Vb,Iq,Instr.sliceAt,Instr.sureAddr,Sem.run_bind,run_underlying hu,Result.andThen_ok,bd,je WB,Sem.run_pure,e0,Vg]
   refine Ok.quiet run ?_ hh
   have get:∀{k:Nat} {c:AV},(cs.take m)[k]?=some c->cs[k]?=some c/\c.leaf=true:=by
    intro k c h;refine⟨?_,Aj hc.2 k c h⟩;rw[bP] at h;split at h
    ·exact h
    ·cases h
   have one:∀{c:AV},c.leaf=true->c.cells=[c]:=by
    intro c h;cases c<;>simp[AV.leaf] at h<;>rfl
   refine .yd _ 1 _ ad m m (fun k _=>u k) (by simp; omega) (aO _) (fun c hm=>?_) (fun k j c d h1 h2=>?_) (fun k j c d h1 h2=>?_)
   ·obtain⟨k,hk⟩:=bE hm;rw[one (get hk).2]; rfl
   ·rw[one (get h1).2] at h2;cases j with
    |zero=>simp at h2; subst h2; simpa using MU k c (get h1).1
    |succ j=>simp at h2
   ·rw[one (get h1).2] at h2;cases j with
    |zero=>simp at h2; subst h2; exact hr k c (get h1).1
    |succ j=>simp at h2
theorem akv {s:TypeId} {f off:Nat} {x:Operand} {y:E} {v:AV} {H':Heap} {fl:Fp} {call:Nat->List AV->Heap->Option (AV × Heap)} (fh:o.op=.fieldAddr s x f) (hh:cj X φ w H) (r:bO (Rd X φ w) φ (ev c env y) (a.eval x))
  (hk:(match P.underlying s with
  |some (.struct fs)=>match fs[f]? with
    |some fd=>decide (fd.offset=off)&&(match P.info? fd.type with
      |some i=>decide (i.size≠0)
      |none=>false)
    |none=>false
  |_=>false)=true) (hs:fO c call env H (.yf off y)=some (v,H',fl)):Ok P X φ w o a v H':=by
 split at hk
 case h_2=>cases hk
 rename_i fs hu;split at hk
 case h_2=>cases hk
 rename_i fd hf;simp only[ae,decide_eq_true_eq] at hk;obtain⟨Qm,oV⟩:=hk;split at oV
 case h_2=>cases oV
 rename_i i hi;have hsz':¬i.size=0:=by simpa using oV
 have run:∀{ad:Addr},a.eval x=.pointer (some ad)->(execOp a.eval o).run P w=.ok (.value (.pointer (some (ad.add off)))) w:=by
  intro ad hx;simp only[execOp,fh,hx,Instr.fieldAt,Sem.run_bind,run_underlying hu,Result.andThen_ok,hf,Instr.sureAddr,Sem.run_pure,fieldPlace,je hi,hsz',if_false,Qm]
 simp only[fO] at hs;split at hs
 ·rename_i b off' hy;simp at hs;obtain⟨rfl,rfl,rfl⟩:=hs;rw[hy] at r;obtain⟨ad,h1,h2⟩:=ZH r off;exact Ok.quiet (run h1) h2 hh
 ·rename_i cs hy;simp at hs;obtain⟨rfl,rfl,rfl⟩:=hs;rw[hy] at r;obtain⟨ad,h1,h2⟩:=OM r off;exact Ok.quiet (run h1) h2 hh
 ·cases hs
theorem aku {s:TypeId} {f off:Nat} {ag:Option Nat} {x:Operand} {y:E} {v:AV} {H':Heap} {fl:Fp} {call:Nat->List AV->Heap->Option (AV × Heap)} (fh:o.op=.field s x f) (hh:cj X φ w H) (r:bO (Rd X φ w) φ (ev c env y) (a.eval x))
  (hk:(match P.underlying s with
  |some (.struct fs)=>match fs[f]? with
    |some fd=>decide (fd.offset=off)&&decide (nf P fd.type=some ag)
    |none=>false
  |_=>false)=true) (hs:fO c call env H (.fld off ag y)=some (v,H',fl)):Ok P X φ w o a v H':=by
 split at hk
 case h_2=>cases hk
 rename_i fs hu;split at hk
 case h_2=>cases hk
 rename_i fd hf;simp only[ae,decide_eq_true_eq] at hk;obtain⟨Qm,EF⟩:=hk;simp only[fO] at hs;split at hs
 case h_2=>cases hs
 rename_i cs hy;split at hs
 case h_2=>cases hs
 rename_i u MU;simp at hs;obtain⟨rfl,rfl,rfl⟩:=hs;rw[hy] at r;generalize hx:a.eval x=ax at r;cases r with
 |agg _ _ vs hl hr=>
   obtain⟨v',h1,h2⟩:=ZR EF hl hr MU;refine Ok.quiet ?_ h2 hh;simp only[execOp,fh,hx,Instr.field,Sem.run_bind,run_underlying hu,Result.andThen_ok,hf,asAgg,Sem.run_pure,Qm,h1]
theorem XT {t e:TypeId} {i:TypeInfo} (hu:P.underlying t=some (.slice e)) (hi:P.info? e=some i) {ad:Addr} {n cap:Nat} {k:IntKind} {j:Int} (h0:0<=j) (h1:j<(n:Int)) :
  (Instr.indexAt t (.slice (some ad) n cap) (.int k j)).run P w=.ok (.pointer (some (ad.add (j.toNat * i.size)))) w:=by
 simp[Instr.indexAt,asIntOf,run_underlying hu,h0,h1,je hi]
theorem af4 {t e:TypeId} {i:TypeInfo} {n:Nat} (hu:P.underlying t=some (.array n e)) (hi:P.info? e=some i) {ad:Addr} {k:IntKind} {j:Int} (h0:0<=j) (h1:j<(n:Int)) :
  (Instr.indexAt t (.pointer (some ad)) (.int k j)).run P w=.ok (.pointer (some (ad.add (j.toNat * i.size)))) w:=by
 simp[Instr.indexAt,asIntOf,Instr.sureAddr,run_underlying hu,h0,h1,je hi]
theorem aks {t:TypeId} {k:Nat} {x xi:Operand} {y yi:E} {v:AV} {H':Heap} {fl:Fp} {call:Nat->List AV->Heap->Option (AV × Heap)} (fh:o.op=.indexAddr t x xi) (hh:cj X φ w H) (r:bO (Rd X φ w) φ (ev c env y) (a.eval x))
  (ri:bO (Rd X φ w) φ (ev c env yi) (a.eval xi)) (hk:jt P t k=true) (hs:fO c call env H (.qc k y yi)=some (v,H',fl)):Ok P X φ w o a v H':=by
 obtain⟨e,i,z,hu,WB,wi,hk0,hby,TV,U4⟩:=jA hk;simp only[fO] at hs;split at hs
 ·rename_i k' xs hy;split at hs
  case h_2=>cases hs
  rename_i j hj;obtain⟨kk,ii,e1,e2,e3,e4,e5⟩:=zT hj;split at hs
  case isFalse=>cases hs
  rename_i wh;subst wh;split at hs
  case h_2=>cases hs
  rename_i el hel;simp at hs;obtain⟨rfl,rfl,rfl⟩:=hs;rw[e1] at ri;have hxi:=iq ri;rw[hy] at r;generalize hx:a.eval x=ax at r;cases r with
  |yd _ _ _ ad n cap u hn iC hkc hur hr=>
    have oW:=XT (P:=P) (w:=w) hu WB (ad:=ad) (n:=n) (cap:=cap) (k:=kk) e2 (by omega);refine Ok.quiet (v':=.pointer (some (ad.add (ii.toNat * i.size)))) (by simp only[execOp,fh,hx,hxi,Sem.run_bind,oW,Result.andThen_ok,Sem.run_pure]) (.dy _ _ _ (fun m=>u j m) (fun m c hc=>?_) (fun m c hc=>hr j m el c hel hc)) hh;rw[Addr.add_add,wi,<-e4];exact hur j m el c hel hc
  |lx=>simp at hel
 ·rename_i k' b off len hy;split at hs
  case h_2=>cases hs
  rename_i j hj;obtain⟨kk,ii,e1,e2,e3,e4,e5⟩:=zT hj;split at hs
  case isFalse=>cases hs
  rename_i wh;subst wh;simp at hs;obtain⟨rfl,rfl,rfl⟩:=hs;rw[e1] at ri;have hxi:=iq ri;rw[hy] at r;generalize hx:a.eval x=ax at r;cases r with
  |sl _ _ _ _ _ ad cap hb hc hp=>
    have oW:=XT (P:=P) (w:=w) hu WB (ad:=ad) (n:=len) (cap:=cap) (k:=kk) e2 (by omega);refine Ok.quiet (v':=.pointer (some (ad.add (ii.toNat * i.size)))) (by simp only[execOp,fh,hx,hxi,Sem.run_bind,oW,Result.andThen_ok,Sem.run_pure]) (.ptr _ _ _ _ hb fun g sz hg=>?_) hh;obtain⟨q1,q2⟩:=hp g sz hg;exact⟨by rw[q1 (by omega),Addr.ju,wi,e4],by omega⟩
 ·cases hs
theorem akr {t:TypeId} {n k:Nat} {x xi:Operand} {y yi:E} {v:AV} {H':Heap} {fl:Fp} {call:Nat->List AV->Heap->Option (AV × Heap)} (fh:o.op=.indexAddr t x xi) (hh:cj X φ w H) (r:bO (Rd X φ w) φ (ev c env y) (a.eval x))
  (ri:bO (Rd X φ w) φ (ev c env yi) (a.eval xi)) (hk:(match P.underlying t with
  |some (.array n' e)=>decide (n=n')&&pF P e k
  |_=>false)=true) (hs:fO c call env H (.Ic n k y yi)=some (v,H',fl)):Ok P X φ w o a v H':=by
 split at hk
 case h_2=>cases hk
 rename_i n' e hu;simp only[ae,decide_eq_true_eq] at hk;obtain⟨rfl,oV⟩:=hk;unfold pF at oV;split at oV
 case h_2=>cases oV
 rename_i i hi;have wi:i.size=k:=by simpa using oV
 simp only[fO] at hs;split at hs
 case h_2=>cases hs
 rename_i j hj;obtain⟨kk,ii,e1,e2,e3,e4,e5⟩:=zT hj;rw[e1] at ri;have hxi:=iq ri
 have run:∀{ad:Addr},a.eval x=.pointer (some ad)->(execOp a.eval o).run P w=.ok (.value (.pointer (some (ad.add (j*k))))) w:=by
  intro ad hx;have oW:=af4 (P:=P) (w:=w) hu hi (ad:=ad) (k:=kk) e2 e3;simp only[execOp,fh,hx,hxi,Sem.run_bind,oW,Result.andThen_ok,Sem.run_pure,wi,e4]
 split at hs
 ·rename_i b off hy;simp at hs;obtain⟨rfl,rfl,rfl⟩:=hs;rw[hy] at r;obtain⟨ad,h1,h2⟩:=ZH r (j*k);exact Ok.quiet (run h1) h2 hh
 ·rename_i cs hy;simp at hs;obtain⟨rfl,rfl,rfl⟩:=hs;rw[hy] at r;obtain⟨ad,h1,h2⟩:=OM r (j*k);exact Ok.quiet (run h1) h2 hh
 ·cases hs
theorem amo {t:TypeId} {n k:Nat} {ag:Option Nat} {x xi:Operand} {y yi:E} {v:AV} {H':Heap} {fl:Fp} {call:Nat->List AV->Heap->Option (AV × Heap)} (fh:o.op=.index t x xi) (hh:cj X φ w H) (r:bO (Rd X φ w) φ (ev c env y) (a.eval x))
  (ri:bO (Rd X φ w) φ (ev c env yi) (a.eval xi)) (hk:(match P.underlying t with
  |some (.array n' e)=>decide (n=n')&&pF P e k&&decide (nf P e=some ag)
  |_=>false)=true) (hs:fO c call env H (.ix n k ag y yi)=some (v,H',fl)):Ok P X φ w o a v H':=by
 split at hk
 case h_2=>cases hk
 rename_i n' e hu;simp only[ae,decide_eq_true_eq] at hk;obtain⟨⟨rfl,oV⟩,EF⟩:=hk;unfold pF at oV;split at oV
 case h_2=>cases oV
 rename_i i hi;have wi:i.size=k:=by simpa using oV
 simp only[fO] at hs;split at hs
 case h_2=>cases hs
 rename_i j hj;obtain⟨kk,ii,e1,e2,e3,e4,e5⟩:=zT hj;rw[e1] at ri;have hxi:=iq ri;split at hs
 case h_2=>cases hs
 rename_i cs hy;split at hs
 case h_2=>cases hs
 rename_i u MU;simp at hs;obtain⟨rfl,rfl,rfl⟩:=hs;rw[hy] at r;generalize hx:a.eval x=ax at r;cases r with
 |agg _ _ vs hl hr=>
   obtain⟨v',h1,h2⟩:=ZR EF hl hr MU;refine Ok.quiet ?_ h2 hh;rw[e4] at h1;simp only[execOp,fh,hx,hxi,Instr.index,asIntOf,Sem.run_bind,Sem.run_pure,run_underlying hu,Result.andThen_ok,e2,e3,and_self,if_true,je hi,wi,h1]
theorem akw {x:Operand} {i:Nat} {vs:List AV} {v:AV} (fh:o.op=.extract x i) (hh:cj X φ w H) (r:bO (Rd X φ w) φ (.dt vs) (a.eval x)) (hv:vs[i]?=some v):Ok P X φ w o a v H:=by
 generalize hx:a.eval x=ax at r;cases r with
 |dt _ _ us hl hr=>
   obtain⟨u,hu⟩:=bX (l:=us) (i:=i) (by have:=ak hv; omega);exact Ok.quiet (by simp only[execOp,fh,hx,Instr.extract,hu,Sem.run_bind,Sem.run_pure,Result.andThen_ok]) (hr i v u hv hu) hh
theorem adO {x:Operand} {y:E} {v:AV} {H':Heap} {fl:Fp} {call:Nat->List AV->Heap->Option (AV × Heap)} (fh:o.op=.nilCheck x) (hh:cj X φ w H) (r:bO (Rd X φ w) φ (ev c env y) (a.eval x))
  (hs:fO c call env H (.oS y)=some (v,H',fl)):Ok P X φ w o a v H':=by
 simp only[fO] at hs;split at hs
 ·rename_i b off hy;simp at hs;obtain⟨rfl,rfl,rfl⟩:=hs;rw[hy] at r;generalize hx:a.eval x=ax at r;have r':=r;cases r;exact Ok.quiet (by simp only[execOp,fh,hx,Sem.run_pure]) r' hh
 ·rename_i cs hy;simp at hs;obtain⟨rfl,rfl,rfl⟩:=hs;rw[hy] at r;generalize hx:a.eval x=ax at r;have r':=r;cases r;exact Ok.quiet (by simp only[execOp,fh,hx,Sem.run_pure]) r' hh
 ·rename_i f as bs hy;simp at hs;obtain⟨rfl,rfl,rfl⟩:=hs;rw[hy] at r;generalize hx:a.eval x=ax at r;have r':=r;cases r;exact Ok.quiet (by simp only[execOp,fh,hx,Sem.run_pure]) r' hh
 ·cases hs
theorem ako {ca:Call} {x:Operand} {t:TypeId} {y:E} {v:AV} {H':Heap} {fl:Fp} {call:Nat->List AV->Heap->Option (AV × Heap)} (fh:o.op=.call ca) (HP:ca.callee=.builtin .len) (oX:ca.args=#[x]) (IH:ca.argTypes=#[t]) (hh:cj X φ w H)
  (r:bO (Rd X φ w) φ (ev c env y) (a.eval x)) (iR:isSlice P t=true) (hs:fO c call env H (.len y)=some (v,H',fl)):Ok P X φ w o a v H':=by
 unfold isSlice at iR;split at iR
 case h_2=>cases iR
 rename_i e hu
 have run:∀{ad:Option Addr} {n cap:Nat},a.eval x=.slice ad n cap->(execOp a.eval o).run P w=.ok (.value (.int .i64 n)) w:=by
  intro ad n cap hx;simp[execOp,fh,resolve,HP,oX,IH,invoke,builtin,hx,Builtin.len_,run_underlying hu,goInt]
 simp only[fO] at hs;split at hs
 case h_2=>cases hs
 rename_i n hn;simp at hs;obtain⟨rfl,rfl,rfl⟩:=hs;generalize hy:ev c env y=yv at r hn;generalize hx:a.eval x=ax at r;cases yv<;>simp only[lenA,af] at hn<;>try (cases hn; done)
 ·subst hn;cases r;exact Ok.quiet (run hx) (.int _ _ _) hh
 ·cases r with
  |yd _ _ _ ad m cap u hm=>
    subst hm; subst hn;exact Ok.quiet (run hx) (.int _ _ _) hh
  |lx=>simp at hn; subst hn; exact Ok.quiet (run hx) (.int _ _ _) hh
 ·subst hn;cases r;exact Ok.quiet (run hx) (.int _ _ _) hh
theorem Rp (mx:Bool):∀(xs:List AV) (vs:List Value) (k:IntKind) (n:Int) (r:AV),CM mx (.int k n) xs=some r->xs.length=vs.length->(∀(i:Nat) (c:AV) (v:Value),xs[i]?=some c->vs[i]?=some v->bO (Rd X φ w) φ c v) ->
  ∃ v,(vs.foldlM (if mx then Builtin.max2 else Builtin.min2) (.int k n)).run P w=.ok v w/\∀ R ψ,bO R ψ r v
 |[],[],k,n,r,h,_,_=>by simp[CM] at h; subst h; exact⟨_,rfl,fun _ _=>.int _ _ _⟩
 |[],_::_,_,_,_,_,hl,_=>by simp at hl
 |_::_,[],_,_,_,_,hl,_=>by simp at hl
 |x::xs,v::vs,k,n,r,h,hl,hr=>by
   cases x<;>simp only[CM] at h<;>try (cases h; done)
   rename_i k' m;obtain rfl:=iq (hr 0 _ v rfl rfl);obtain⟨v',h1,h2⟩:=Rp mx xs vs k _ r h (by simpa using hl) (fun i c u hc hu=>hr (i+1) c u (by simpa using hc) (by simpa using hu));refine⟨v',?_,h2⟩;cases mx
   ·simp only[bk,if_false] at h1 ⊢;simp only[List.foldlM_cons,Builtin.min2,Sem.run_bind,Sem.run_pure,Result.andThen_ok];exact h1
   ·simp only[if_true] at h1 ⊢;simp only[List.foldlM_cons,Builtin.max2,Sem.run_bind,Sem.run_pure,Result.andThen_ok];exact h1
theorem adR {mx:Bool} {ca:Call} {ys:List E} {v:AV} (fh:o.op=.call ca) (HP:ca.callee=.builtin (if mx then .max else .min)) (hh:cj X φ w H) (he:qR X φ w env a.tmps) (hg:dX c X φ w)
  (oX:jB ca.args.toList ys=true) (hm:Br mx (IM c env ys)=some v):Ok P X φ w o a v H:=by
 obtain⟨hl,hr⟩:=pY he hg oX;generalize hxs:IM c env ys=xs at hm hl hr;have QZ:(ca.args.map a.eval).toList=ca.args.toList.map a.eval:=by simp
 cases xs with
 |nil=>simp[Br] at hm
 |cons x xs=>
   cases x<;>simp only[Br] at hm<;>try (cases hm; done)
   rename_i k n;cases hav:ca.args.toList.map a.eval with
   |nil=>have:=congrArg List.length hav; simp at this hl; rw[this] at hl; simp at hl
   |cons u us=>
     rw[hav] at hr;obtain rfl:=iq (hr 0 _ u rfl rfl);obtain⟨v',h1,h2⟩:=Rp (P:=P) mx xs us k n v hm (by have:=congrArg List.length hav; simp at this hl; omega) (fun i c w' hc hw=>hr (i+1) c w' (by simpa using hc) (by simpa using hw));refine Ok.quiet (v':=v') ?_ (h2 _ _) hh;cases mx
     ·simp only[bk,if_false] at h1 HP;simp only[execOp,fh,resolve,HP,invoke,builtin,Builtin.min_,QZ,hav,Sem.run_bind,Sem.run_pure,Result.andThen_ok,h1]
     ·simp only[if_true] at h1 HP;simp only[execOp,fh,resolve,HP,invoke,builtin,Builtin.max_,QZ,hav,Sem.run_bind,Sem.run_pure,Result.andThen_ok,h1]
theorem akq {t:TypeId} {s:ByteArray} {tab:List Nat} {xi:Operand} {yi:E} {v:AV} {H':Heap} {fl:Fp} {call:Nat->List AV->Heap->Option (AV × Heap)} (fh:o.op=.index t (.const (.string s)) xi) (hh:cj X φ w H)
  (ri:bO (Rd X φ w) φ (ev c env yi) (a.eval xi)) (hu:(match P.underlying t with
  |some .string=>true
  |_=>false)=true) (htab:s.data.toList.map (·.toNat)=tab) (hs:fO c call env H (.ixs tab yi)=some (v,H',fl)):Ok P X φ w o a v H':=by
 split at hu
 case h_2=>cases hu
 rename_i hu0;clear hu;simp only[fO] at hs;split at hs
 case h_2=>cases hs
 rename_i j hj;obtain⟨kk,ii,e1,e2,e3,e4,e5⟩:=zT hj;rw[e1] at ri;have hxi:=iq ri;split at hs
 case h_2=>cases hs
 rename_i u MU;simp at hs;obtain⟨rfl,rfl,rfl⟩:=hs;subst htab
 have bF:j<s.size:=by
  have h1:s.data.size=s.size:=rfl;have h2:=e5;simp at h2;omega
 have hsj:s[j]?=some s[j]:=getElem?_pos s j bF
 have hu2:s[j].toNat=u:=by
  rw[cn] at MU
  have:s.data.toList[j]?=some s[j]:=by
   rw[ff];exact mN bF
  rw[this] at MU;simpa using MU
 refine Ok.quiet (v':=.int .u8 u) ?_ (.int _ _ _) hh;subst e4;have dI:a.eval (.const (.string s))=.string s:=rfl;simp only[execOp,fh,dI,hxi,Instr.index,asIntOf,Sem.run_bind,Sem.run_pure,run_underlying hu0,Result.andThen_ok,e2,if_true,hsj,hu2]
theorem akz {ca:Call} {x:Operand} {t:TypeId} {k:Nat} {zs:List AV} {y:E} {v:AV} {H':Heap} {fl:Fp} {call:Nat->List AV->Heap->Option (AV × Heap)} (fh:o.op=.call ca) (HP:ca.callee=.builtin .clear) (oX:ca.args=#[x]) (IH:ca.argTypes=#[t]) (hh:cj X φ w H)
  (r:bO (Rd X φ w) φ (ev c env y) (a.eval x)) (hk:jt P t k=true) (hz:iT P t zs=true) (hs:fO c call env H (.clr k zs y)=some (v,H',fl)):Ok P X φ w o a v H':=by
 obtain⟨e,i,z,hu,hi,wi,hk0,hby,TV,U4⟩:=jA hk;simp only[iT,hu] at hz;obtain⟨i',z',wS,MS,dI,A3⟩:=vp (X:=X) (φ:=φ) (w:=w) hz;rw[hi] at wS;simp at wS;subst wS;rw[TV] at MS;simp at MS;subst MS;have FQ:zs.length=k:=by have:=dI.1; simp at this; omega
 have run0:∀{ad:Option Addr} {cap:Nat},a.eval x=.slice ad 0 cap->(execOp a.eval o).run P w=.ok (.value (.tuple #[])) w:=by
  intro ad cap hx;cases ad<;>simp[execOp,fh,resolve,HP,oX,IH,invoke,builtin,hx,Builtin.clear_,run_underlying hu]
 simp only[fO] at hs;split at hs
 ·rename_i hy;simp at hs;obtain⟨rfl,rfl,rfl⟩:=hs;rw[hy] at r;generalize hx:a.eval x=ax at r;cases r;exact Ok.quiet (run0 hx) (.undef _) hh
 ·rename_i k' hy;simp at hs;obtain⟨rfl,rfl,rfl⟩:=hs;rw[hy] at r;generalize hx:a.eval x=ax at r;cases r with
  |yd _ _ _ ad n cap u hn=>simp at hn; subst hn; exact Ok.quiet (run0 hx) (.undef _) hh
  |lx=>exact Ok.quiet (run0 hx) (.undef _) hh
 ·rename_i k' b off len hy;rw[hy] at r;split at hs
  ·rename_i h0;subst h0;simp at hs;obtain⟨rfl,rfl,rfl⟩:=hs;generalize hx:a.eval x=ax at r;cases r;exact Ok.quiet (run0 hx) (.undef _) hh
  ·rename_i h0;split at hs
   case h_2=>cases hs
   rename_i cs hb;split at hs
   case isFalse=>cases hs
   rename_i hc;obtain⟨rfl,qK⟩:=hc;simp at hs;obtain⟨rfl,rfl,rfl⟩:=hs;generalize hx:a.eval x=ax at r;cases r with
   |sl _ _ _ _ _ ad cap hbl iC hp=>
     obtain⟨g,sz,arr,e2,h1,h2,h3,h4,h5,h6⟩:=hh.cat hb fun g sz hg=>by have:=(hp g sz hg).2; omega
     have amW:=(hp g sz h1).2;have amJ:0<cap:=by omega
     obtain rfl:=(hp g sz h1).1 amJ
     have rp:bO (Rd X φ w) φ (.ptr b off) (.pointer (some ⟨g,off,none⟩)):=.ptr _ _ _ _ hbl fun g' pg Qq=>by
      rw[h1] at Qq;simp at Qq;obtain⟨rfl,rfl⟩:=Qq;exact⟨rfl,by omega⟩
     have hcz:Cs X φ w (rep zs len) (Builtin.zeroCells z.cells len).toList:=by
      refine⟨by rw[nF,FQ]; simp[Builtin.zeroCells,U4],fun j c v hc hv=>?_⟩;obtain⟨u,q1,q2⟩:=VK dI (n:=len) (m:=len*k') (by rw[U4]; omega) (arr:=Builtin.zeroCells z.cells len) (by simp[Builtin.zeroCells,U4]) (fun i hi=>by simp[Builtin.zeroCells,U4,hi]) j c hc;rw[ff,q1] at hv;simp at hv;subst hv;exact q2
     obtain⟨g',w',e1,MV,q1,q2⟩:=IW (P:=P) hh hb rp hcz (hcz.uq (acF A3 len)) (by rw[nF,FQ]; exact qK);simp at e1;subst e1;refine Ok.value (v':=.tuple #[]) ?_ (.undef _) q1 q2;cases len with
     |zero=>exact absurd rfl h0
     |succ m=>simp[execOp,fh,resolve,HP,oX,IH,invoke,builtin,hx,Builtin.clear_,run_underlying hu,ti hi TV,MV]
 ·cases hs
end
end Go.Am

/- append; calls. -/
namespace Go.Am
section
variable {P:Program} {c:eI} {X:Nat->Prop} {φ:dj} {w:World} {env:Env} {H:Heap} {a:Act} {o:Oper}

theorem fx {k:Nat}:∀{xs:List AV},(∀x∈xs,x.cells.length=k)->(aA xs).length=xs.length*k /\
  ∀ (p:Nat) (c:AV),(aA xs)[p]?=some c->∃i x j,xs[i]?=some x/\x.cells[j]?=some c/\p=i*k+j
 |[],_=>⟨by simp[aA],fun p c h=>by simp[aA] at h⟩
 |x::r,h=>by
   obtain⟨hl,hm⟩:=fx (xs:=r) fun y hy=>h y (by simp[hy]);have hx:=h x (by simp);refine⟨by simp[aA,hl,hx,cK]; omega,fun p c hc=>?_⟩;rw[aA] at hc;by_cases hp:p<x.cells.length
   ·rw[aq hp] at hc;exact⟨0,x,p,rfl,hc,by omega⟩
   ·rw[aM (by omega)] at hc;obtain⟨i,y,j,h1,h2,h3⟩:=hm _ c hc;exact⟨i+1,y,j,by simpa using h1,h2,by rw[cK]; omega⟩
theorem BF (hh:cj X φ w H) {k m:Nat} {x:AV} {news:List AV} {v:Value} (h:jG H k x=some (news,m)) (r:bO (Rd X φ w) φ x v) :
  ∃ ao cap vs,v=.slice ao m cap/\vs.length=m*k/\Cs X φ w news vs/\(∀ad,ao=some ad->∀(j:Nat) (u:Value),vs[j]?=some u->w.cell? (ad.add j)=some u)/\(ao=none->m=0):=by
 have fin:∀{ad:Addr} {cap:Nat} {cs:List AV},Q6 X φ w cs ad->cs.length=m*k->cs=news->v=.slice (some ad) m cap ->
   ∃ ao cap vs,v=.slice ao m cap/\vs.length=m*k/\Cs X φ w news vs/\(∀ad,ao=some ad->∀(j:Nat) (u:Value),vs[j]?=some u->w.cell? (ad.add j)=some u)/\(ao=none->m=0):=by
  intro ad cap cs hp hl hn hv;obtain⟨vs,h1,h2,h3⟩:=hp.values cs.length (aO _);subst hn;refine⟨some ad,cap,vs,hv,by omega,⟨h1.symm,fun i c u hc hu=>h3 i c u (by simpa using hc) hu⟩,fun ad' h=>?_,fun h=>by cases h⟩;cases h;exact h2
 cases x<;>simp only[jG] at h<;>try (cases h; done)
 ·simp at h;obtain⟨rfl,rfl⟩:=h;cases r;exact⟨none,0,[],rfl,by simp,⟨rfl,fun i c u hc=>by simp at hc⟩,(fun ad h=>by cases h),fun _=>rfl⟩
 ·rename_i k' xs;split at h
  ·rename_i hk;subst hk;simp at h;obtain⟨rfl,rfl⟩:=h;cases r with
   |yd _ _ _ ad n cap u hn iC hkc hur hr=>
     obtain⟨hl,hm⟩:=fx hkc;subst hn;refine fin (ad:=ad) (cap:=cap) (fun p c hc=>?_) hl rfl rfl;obtain⟨i,y,j,h1,h2,rfl⟩:=hm p c hc;exact⟨u i j,(hur i j y c h1 h2).2.2,(hr i j y c h1 h2).HH φ⟩
   |lx=>exact⟨none,0,[],rfl,by simp,⟨rfl,fun i c u hc=>by simp[aA] at hc⟩,(fun ad h=>by cases h),fun _=>rfl⟩
  ·cases h
 ·rename_i k' b off len;split at h
  case h_2=>cases h
  rename_i cs dI;split at h
  case isFalse=>cases h
  rename_i hc;obtain⟨rfl,qK⟩:=hc;simp at h;obtain⟨rfl,rfl⟩:=h;cases r with
  |sl _ _ _ _ _ ad cap hb hc hp=>
    obtain⟨g,sz,arr,e,h1,h2,h3,h4,h5,h6⟩:=hh.cat dI fun g sz hg=>by have:=(hp g sz hg).2; omega
    by_cases h0:len=0
    ·subst h0;exact⟨some ad,cap,[],rfl,by simp,⟨by simp,fun i c u hc=>by simp at hc⟩,(fun _ _ j u hu=>by simp at hu),(fun h=>by cases h)⟩
    ·obtain rfl:=(hp g sz h1).1 (by omega);refine fin (ad:=⟨g,off,none⟩) (cap:=cap) (cs:=(cs.drop off).take (len*k')) (fun p c hc=>?_) (by simp; omega) rfl rfl;rw[bP] at hc;split at hc
     ·rw[bf] at hc;obtain⟨u,hu,r⟩:=h6 _ _ hc;exact⟨u,by rw[Addr.ju,gg h2]; exact hu,r⟩
     ·cases hc

theorem Fg {t ty e e2:TypeId} {i:TypeInfo} (ht:P.underlying t=some (.slice e)) (hi:P.info? e=some i)
  {g VC sCap:Nat} {cur:Array Value} (hg:w.heap[g]?=some (.cells cur e2 (0,0)))
  {a:Addr} {m c:Nat} {news:List Value} (hl:news.length=m*i.size) (amB:∀(j:Nat) (u:Value),news[j]?=some u->w.cell? (a.add j)=some u) (h1:∀u∈news,u.oneCell'=true)
  (aiX:VC+m<=sCap) (qK:VC*i.size+news.length<=cur.size) :
  (Builtin.append_ #[t,t] ty #[.slice (some ⟨g,0,none⟩) VC sCap,.slice (some a) m c]).run P w =
   .ok (.slice (some ⟨g,0,none⟩) (VC+m) sCap) (w.setRow g (cur.toList.take (VC*i.size)++news++cur.toList.drop (VC*i.size+news.length)).toArray):=by
 have hf:=run_firstCells_some (P:=P) w i.size m a m c news hl amB;have MV:=run_storeCells_at P g (VC*i.size) e2 news 0 cur w hg (by simpa using qK) h1;simp only[B3] at MV;simp[Builtin.append_,run_underlying ht,sizeOf,typeInfo,hi,Builtin.lenOf,aiX,hf,Addr.add_lit,MV]
theorem q5 {t ty e:TypeId} {i:TypeInfo} (hu:P.underlying t=some (.slice e)) (hi:P.info? e=some i) {base ao:Option Addr} {n cap c:Nat} (h:n<=cap) :
  (Builtin.append_ #[t,t] ty #[.slice base n cap,.slice ao 0 c]).run P w=.ok (.slice base n cap) w:=by
 cases base<;>cases ao<;>simp[Builtin.append_,run_underlying hu,sizeOf,yS hi,Builtin.lenOf,h,Builtin.firstCells,loadCells,loadCellsFrom,storeCells]
theorem akD {ca:Call} {x y:Operand} {t:TypeId} {k:Nat} {x' y':E} {v:AV} {H':Heap} {fl:Fp} {call:Nat->List AV->Heap->Option (AV × Heap)} (fh:o.op=.call ca) (HP:ca.callee=.builtin .append) (oX:ca.args=#[x,y]) (IH:ca.argTypes=#[t,t])
  (hh:cj X φ w H) (rx:bO (Rd X φ w) φ (ev c env x') (a.eval x)) (ry:bO (Rd X φ w) φ (ev c env y') (a.eval y)) (hk:jt P t k=true) (hs:fO c call env H (.app k x' y')=some (v,H',fl)):Ok P X φ w o a v H':=by
 obtain⟨e,i,z,hu,hi,wi,hk0,hby,TV,U4⟩:=jA hk
 have fin:∀{p q v':Value} {w':World} {φ':dj},a.eval x=p->a.eval y=q->(Builtin.append_ #[t,t] o.type #[p,q]).run P w=.ok v' w'->bO (Rd X φ' w') φ' v v'->cj X φ' w' H'->fg φ w φ' w'->Ok P X φ w o a v H':=by
  intro p q v' w' φ' hp hq hr r h k;refine Ok.value ?_ r h k;simp only[execOp,fh,resolve,HP,oX,IH,invoke,builtin,List.map_toArray,dp,we,hp,hq,Sem.run_bind,Sem.run_pure,Result.andThen_ok,hr]
 simp only[fO] at hs;split at hs
 case h_2=>cases hs
 rename_i news m hsc;obtain⟨ao,Xh,vs,hy,hvl,Qr,hvc,aaH⟩:=BF hh hsc ry;have hL:lU=4294967296:=rfl;split at hs
 ·rename_i MT;rw[MT] at rx;generalize hx:a.eval x=ax at rx;cases rx;by_cases hm:m=0
  ·subst hm;simp at hs;obtain⟨rfl,rfl,rfl⟩:=hs;exact fin hx hy (q5 hu hi (aO 0)) (.du _) hh (.refl _ _)
  ·rw[if_neg hm] at hs;split at hs
   case isFalse=>cases hs
   rename_i hc;obtain⟨Qn,A3⟩:=hc;simp at hs;obtain⟨rfl,rfl,rfl⟩:=hs;cases ao with
   |none=>exact absurd (aaH rfl) hm
   |some ad=>
     have hmb:m*i.bytes<=4294967296*1024:=Nat.mul_le_mul (by omega) hby;have hr:=run_append_nil (P:=P) w t o.type e i z hu hi TV ad m Xh vs (by rw[hvl,wi]) (hvc ad rfl) (by omega) (by omega) (by omega);have hge:=grownCap_ge w m 0 e
     have oV:(vs.toArray++Builtin.zeroCells z.cells (grownCap w m 0 e-m)).size=grownCap w m 0 e*k:=by
      simp only[Array.size_append,vo,size_zeroCells,U4,hvl,<-cK]; congr 1; omega
     obtain⟨q1,q2⟩:=vZ hh (w1:=w.drew) (arr:=vs.toArray++Builtin.zeroCells z.cells (grownCap w m 0 e-m)) (e:=e) (cs:=news) rfl rfl rfl rfl
      (by rw[oV,Qr.1,hvl]; exact bS _ hge)
      (Qr.at fun j u hj=>by rw[uJ (by simpa using ak hj)]; simpa using hj)
     exact fin hx hy hr (P0 hh.len hge (by rw[oV]; exact aO _)) q1 q2
 ·rename_i k' b n MT;split at hs
  case h_2=>cases hs
  rename_i cs dI;split at hs
  case isFalse=>cases hs
  rename_i hc;obtain⟨rfl,hnk,Qn,A3⟩:=hc;simp at hs;obtain⟨rfl,rfl,rfl⟩:=hs;rw[MT] at rx;generalize hx:a.eval x=ax at rx;cases rx with
  |sl _ _ _ _ _ ad cap hb iC hp=>
    obtain⟨g,sz,arr,e2,jK,hg,oV,hle,hX,hm6⟩:=hh.cat dI fun g sz hg=>by have:=(hp g sz hg).2; omega
    subst oV;have oV:=Eq.refl (arr.size+1);obtain⟨T5,aiX⟩:=hp g _ jK
    have hold:Cs X φ w (cs.take (n*k')) (arr.toList.take (n*k')):=by
     refine⟨by simp; omega,fun j x u hx hu=>?_⟩;have hj:j<n*k':=by have:=ak hx; simp at this; omega
     rw[aT hj] at hx hu;obtain⟨u',h1,h2⟩:=hm6 j x hx;simp at hu;rw[h1] at hu;simp at hu;subst hu;exact h2
    have lG:=hold.append Qr;have A4:(arr.toList.take (n*k')).length=n*k':=by simp; omega
    have hlen:(n:Nat)*k'+m*k'=(n+m)*k':=by rw[cK]
    by_cases hm:m=0
    ·subst hm;have QZ:vs=[]:=eC (by omega);subst QZ
     obtain⟨q1,q2⟩:=hh.move (cs':=cs.take (n*k')++news) (arr':=arr) (w':=w) jK hg oV rfl (by rw[setRow_self w g arr e2 _ hg]) hX
      (by rw[lG.1]; simp; omega) (lG.at fun j u hj=>by
       rw[List.append_nil] at hj;have hj':j<n*k':=by have:=ak hj; omega
       rw[aT hj'] at hj;simpa using hj)
     refine fin hx hy (q5 hu hi iC) ?_ q1 q2;refine .sl _ _ _ _ _ _ _ (by simp[hh.len]) iC fun g' pg Qq=>?_;rw[aM (by simp[hh.len])] at Qq;simp[hh.len] at Qq;obtain⟨rfl,rfl⟩:=Qq;exact⟨T5,by omega⟩
    ·cases ao with
     |none=>exact absurd (aaH rfl) hm
     |some ady=>
       have h1c:=Qr.uq A3;by_cases Wx:n+m<=cap
       ·obtain rfl:=T5 (by omega)
        have qK:n*i.size+vs.length<=arr.size:=by
         rw[wi,hvl,hlen];have:=bS k' Wx;omega
        have hr:=Fg (P:=P) (ty:=o.type) (c:=Xh) hu hi hg (by rw[hvl,wi]) (hvc ady rfl) h1c Wx qK;rw[wi] at hr qK
        have EA:(arr.toList.take (n*k')++vs++arr.toList.drop (n*k'+vs.length)).toArray.size=arr.size:=by
         simp only[vo,bK,bw,eQ,sS]; omega
        obtain⟨q1,q2⟩:=hh.move (cs':=cs.take (n*k')++news) (arr':=(arr.toList.take (n*k')++vs++arr.toList.drop (n*k'+vs.length)).toArray) jK hg oV EA rfl hX
         (by rw[lG.1,EA]; simp; omega) (lG.at fun j u hj=>by
          simp only[As];rw[aq (ak hj)];exact hj)
        refine fin hx hy hr (aag (by simp[hh.len]) Wx (by omega)) q1 q2
       ·have holds:∀(j:Nat) (u:Value),(arr.toList.take (n*k'))[j]?=some u->w.cell? (ad.add j)=some u:=by
         intro j u hj;have hj':j<n*k':=by have:=ak hj; omega
         have hn0:0<n:=by
          rcases Nat.eq_zero_or_pos n with h|h
          ·subst h; simp at hj'
          ·exact h
         obtain rfl:=T5 (by omega);rw[Addr.ju,gg hg];rw[aT hj'] at hj;simpa using hj
        have hmb:(n+m)*i.bytes<=4294967296*1024:=Nat.mul_le_mul (by omega) hby
        have hr:=run_append_grow (P:=P) w t o.type e i z hu hi TV ad n cap (arr.toList.take (n*k')) (by rw[A4,wi]) holds ady m Xh vs (by rw[hvl,wi]) (hvc ady rfl) (by omega) (by omega)
         (growslice_fits (by omega) (by omega))
        have hge:=grownCap_ge w (n+m) cap e
        have hsz2:((arr.toList.take (n*k')).toArray++vs.toArray++Builtin.zeroCells z.cells (grownCap w (n+m) cap e-(n+m))).size=grownCap w (n+m) cap e*k':=by
         simp only[Array.size_append,vo,size_zeroCells,U4,hvl,A4,<-cK]; congr 1; omega
        obtain⟨k1,k2⟩:=hh.aeA b;have OC:Cs X (φ.set b none) w (cs.take (n*k')++news) (arr.toList.take (n*k')++vs):=⟨lG.1,fun j x u hx hu=>k2.rep (lG.2 j x u hx hu)⟩
        obtain⟨q1,q2⟩:=vZ k1 (w1:=w.drew) (arr:=(arr.toList.take (n*k')).toArray++vs.toArray++Builtin.zeroCells z.cells (grownCap w (n+m) cap e-(n+m))) (e:=e) (cs:=cs.take (n*k')++news) rfl rfl rfl rfl
         (by rw[hsz2,lG.1,bK,A4,hvl,hlen]; exact bS _ hge)
         (OC.at fun j u hj=>by
          rw[uJ (by simpa using ak hj)];have:((arr.toList.take (n*k')).toArray++vs.toArray)=(arr.toList.take (n*k')++vs).toArray:=by simp
          rw[this];simpa using hj)
        refine fin hx hy hr ?_ q1 (k2.trans q2);exact aag (by simp[hh.len]) hge (by rw[hsz2]; exact aO _)
 ·cases hs

theorem agL {ca:Call} {x y:Operand} {t t':TypeId} {k:Nat} {x' y':E} {v:AV} {H':Heap} {fl:Fp} {call:Nat->List AV->Heap->Option (AV × Heap)} (fh:o.op=.call ca) (HP:ca.callee=.builtin .copy) (oX:ca.args=#[x,y]) (IH:ca.argTypes=#[t,t'])
  (hh:cj X φ w H) (rx:bO (Rd X φ w) φ (ev c env x') (a.eval x)) (ry:bO (Rd X φ w) φ (ev c env y') (a.eval y)) (hk:jt P t k=true) (hs:fO c call env H (.copy k x' y')=some (v,H',fl)):Ok P X φ w o a v H':=by
 obtain⟨e,i,z,hu,hi,wi,hk0,hby,TV,U4⟩:=jA hk
 have fin:∀{p q v':Value} {w':World} {φ':dj},a.eval x=p->a.eval y=q->(Builtin.copy_ #[t,t'] o.type #[p,q]).run P w=.ok v' w'->bO (Rd X φ' w') φ' v v'->cj X φ' w' H'->fg φ w φ' w'->Ok P X φ w o a v H':=by
  intro p q v' w' φ' hp hq hr r h k;refine Ok.value ?_ r h k;simp only[execOp,fh,resolve,HP,oX,IH,invoke,builtin,List.map_toArray,dp,we,hp,hq,Sem.run_bind,Sem.run_pure,Result.andThen_ok,hr]
 simp only[fO] at hs;split at hs
 case h_2=>cases hs
 rename_i news m hsc;obtain⟨ao,Xh,vs,hy,hvl,Qr,hvc,aaH⟩:=BF hh hsc ry
 have zero:∀{base:Option Addr} {n cap:Nat},Nat.min m n=0->(Builtin.copy_ #[t,t'] o.type #[.slice base n cap,.slice ao m Xh]).run P w=.ok (.int .i64 0) w:=by
  intro base n cap h0;cases base<;>cases ao<;>simp[Builtin.copy_,run_underlying hu,Builtin.lenOf,sizeOf,yS hi,h0,Builtin.firstCells,loadCells,loadCellsFrom,storeCells,goInt]
 split at hs
 ·rename_i MT;rw[MT] at rx;generalize hx:a.eval x=ax at rx;cases rx;simp at hs;obtain⟨rfl,rfl,rfl⟩:=hs;exact fin hx hy (zero (Nat.min_zero m)) (.int _ _ _) hh (.refl _ _)
 ·rename_i k' b off n MT;split at hs
  case h_2=>cases hs
  rename_i cs dI;split at hs
  case isFalse=>cases hs
  rename_i hc;obtain⟨rfl,qK,A3⟩:=hc;simp only[af,aC] at hs;obtain⟨rfl,rfl,rfl⟩:=hs;rw[MT] at rx;generalize hx:a.eval x=ax at rx;cases rx with
  |sl _ _ _ _ _ ad cap hb iC hp=>
    obtain⟨g,sz,arr,e2,jK,hg,oV,hle,hX,hm6⟩:=hh.cat dI fun g sz hg=>by have:=(hp g sz hg).2; omega
    by_cases h0:min m n=0
    ·have e0:H.set b (some (j9 cs off (news.take (min m n*k'))))=H:=by
      have e1:j9 cs off (news.take (min m n*k'))=cs:=by rw[h0]; simp[j9]
      rw[e1]
      have iE:H[b]?=some (some cs):=by
       unfold aJ at dI;split at dI
       ·rename_i q hq;cases dI;exact hq
       ·cases dI
      apply dN;intro j;rw[aR];split
      ·rename_i ej;subst ej;rw[iE];simp[ak iE]
      ·rfl
     have h0':Nat.min m n=0:=h0;exact fin hx hy (zero h0') (by rw[h0]; exact .int _ _ _) (by rw[e0]; exact hh) (.refl _ _)
    ·obtain rfl:=(hp g sz jK).1 (by omega);cases ao with
     |none=>exact absurd (aaH rfl) (by omega)
     |some ady=>
       have rp:bO (Rd X φ w) φ (.ptr b off) (.pointer (some ⟨g,off,none⟩)):=.ptr _ _ _ _ hb fun g' pg Qq=>by
        rw[jK] at Qq;simp at Qq;obtain⟨rfl,rfl⟩:=Qq;exact⟨rfl,by omega⟩
       have hle2:min m n*k'<=m*k':=bS _ (Nat.min_le_left _ _);have hle3:min m n*k'<=n*k':=bS _ (Nat.min_le_right _ _)
       have hcz:Cs X φ w (news.take (min m n*k')) (vs.take (min m n*k')):=by
        refine⟨by simp[Qr.1],fun j d u hd hu=>?_⟩;have hj:j<min m n*k':=by have:=ak hd; rw[bw] at this; omega
        rw[aT hj] at hd hu;exact Qr.2 j d u hd hu
       have hnl:news.length=m*k':=by rw[Qr.1,hvl]
       obtain⟨g',w',e1,MV,q1,q2⟩:=IW (P:=P) hh dI rp hcz (fun u hu=>Qr.uq A3 u (List.mem_of_mem_take hu)) (by rw[bw]; omega);simp at e1;subst e1
       have hf:=run_firstCells_some (P:=P) w i.size (min m n) ady m Xh (vs.take (min m n*k')) (by rw[bw,hvl,wi]; omega) (fun j u hj=>by
        have hj':j<min m n*k':=by have:=ak hj; rw[bw] at this; omega
        rw[aT hj'] at hj;exact hvc ady rfl j u hj)
       have hmin:Nat.min m n=min m n:=rfl;refine fin hx hy (v':=.int .i64 ((min m n:Nat):Int)) (w':=w') ?_ (.int _ _ _) q1 q2;have TW:(Builtin.firstCells i.size (Nat.min m n) (.slice (some ady) m Xh)).run P w=.ok (vs.take (min m n*k')).toArray w:=hf;simp[Builtin.copy_,run_underlying hu,Builtin.lenOf,sizeOf,yS hi,TW,MV,goInt]
       try rfl
 ·cases hs

/-! Calls -/
def Ret (X:Nat->Prop) (φ:dj) (w:World) (r:AV) (H':Heap) (e:Ending) (w':World):Prop:=
 ∃ v' φ',e=.returned v'/\bO (Rd X φ' w') φ' r v'/\cj X φ' w' H'/\fg φ w φ' w'
def Gd (P:Program) (c:eI) (call:Nat->List AV->Heap->Option (AV × Heap)):Prop:=
 ∀ f m q,c.fn f=some (m,q)->∀args H r H',call f args H=some (r,H')->∀X φ w vargs,ud X φ w args vargs->cj X φ w H->dX c X φ w->Calls P f vargs w (Ret X φ w r H')

theorem cj.gJ (h:cj X φ w H) {g:Nat} (ho:bQ φ g):g<w.heap.size/\¬ X g:=by
 obtain⟨b,sz,hb⟩:=ho;obtain⟨x,hx⟩:=bq (l:=H) (i:=b) (h.len▸ak hb);cases x with
 |none=>rw[h.dead b hx] at hb; simp at hb
 |some cs=>
   obtain⟨g',pg,arr,e,h1,h2,_,_,h5,_⟩:=h.live b cs hx;rw[h1] at hb;simp at hb;rw[<-hb.1];exact⟨(dV.1 h2).1,h5⟩
theorem cj.empty (h:cj X φ w H):cj (fun g=>X g\/bQ φ g) [] w []:=
 ⟨rfl,fun g hg=>hg.elim (h.Gg g) (fun ho=>(h.gJ ho).1),fun b cs hb=>by simp at hb,fun b hb=>by simp at hb,fun b b' g sz pg h1=>by simp at h1⟩
theorem SS (hh:cj X φ w H) {R:Addr->Value->Prop} (hR:∀a u,Rd X φ w a u->R a u) {xs ys:List AV} {bs:List Nat} {n:Nat} {vs:Array Value} (hm:FC (F0 H n) xs=some (ys,bs))
  (hb:∀b∈bs,∀g sz:Nat,φ[b]?=some (some (g,sz))->∀o u,w.cell? ⟨g,o,none⟩=some u->R ⟨g,o,none⟩ u) (ha:ud X φ w xs vs) :
  ys.length=vs.size/\∀ (i:Nat) (c:AV) (v:Value),ys[i]?=some c->vs[i]?=some v->bO R [] c v:=by
 obtain⟨hl,Wz⟩:=vP hm;refine⟨by rw[hl,ha.1],fun i c v hc hv=>?_⟩;obtain⟨x,hx⟩:=bq (l:=xs) (i:=i) (by have:=ak hc; omega);obtain⟨y,b,e1,e2,e3⟩:=Wz i x hx;rw[e2] at hc;simp at hc;subst hc;exact IL hh hR n x _ v b e1 (fun b' iE=>hb b' (e3 b' iE)) (ha.2 i x v hx hv)

theorem Fm {call:Nat->List AV->Heap->Option (AV × Heap)} (dW:Gd P c call) {f:Nat} {m:Md} {q:fW} (hf:c.fn f=some (m,q)) {args:List AV} {r r':AV} {H1:Heap} {bs:List Nat} (hr:call f args []=some (r,H1)) (hz:F0 H1 Xv r=some (r',bs))
  (hh:cj X φ w H) (hg:dX c X φ w) {vargs:Array Value} (ha:args.length=vargs.size/\∀ (i:Nat) (c:AV) (v:Value),args[i]?=some c->vargs[i]?=some v->bO (Rd X φ w) [] c v) :
  Calls P f vargs w (Ret X φ w r' H):=by
 have wO:∀{w':World} a u,Rd X φ w' a u->Rd (fun g=>X g\/bQ φ g) [] w' a u:=fun a u ⟨h1,h2,h3⟩=>⟨fun h=>h.elim h1 h2,bQ.nil _,h3⟩;have amK:∀{w':World} a u,Rd (fun g=>X g\/bQ φ g) [] w' a u->Rd X φ w' a u:=fun a u ⟨h1,_,h3⟩=>⟨fun h=>h1 (.inl h),fun h=>h1 (.inr h),h3⟩;refine (dW f m q hf args [] r H1 hr (fun g=>X g\/bQ φ g) [] w vargs ⟨ha.1,fun i x v hx hv=>(ha.2 i x v hx hv).mono wO (.refl _)⟩ hh.empty (fun g=>(hg g).mono wO (.refl _))).mono ?_;rintro e w1 ⟨v',lV,rfl,r1,h1,a1⟩;refine⟨v',φ,rfl,?_,hh.of_same a1,.of_same a1⟩
 have Ii:=IL h1 (R:=Rd (fun g=>X g\/bQ φ g) [] w1) (fun a u ⟨p1,p2,p3⟩=>⟨p1,bQ.nil _,p3⟩) Xv r r' v' bs hz
  (fun b _ g sz hb o u hu=>⟨(h1.gJ ⟨b,sz,hb⟩).2,bQ.nil _,hu⟩) r1
 exact (Ii.mono amK (.refl _)).HH φ
theorem OT {call:Nat->List AV->Heap->Option (AV × Heap)} (dW:Gd P c call) {f:Nat} {args:List AV} {r:AV} {H':Heap} {fl:Fp} (hs:Ab c call f args H=some (r,H',fl))
  (hh:cj X φ w H) (hg:dX c X φ w) {vargs:Array Value} (ha:ud X φ w args vargs):(∃m q,c.fn f=some (m,q))/\Calls P f vargs w (Ret X φ w r H'):=by
 unfold Ab at hs;split at hs
 ·cases hs
 ·rename_i q hf;refine⟨⟨_,_,hf⟩,?_⟩;split at hs
  case h_2=>cases hs
  rename_i r1 H1 hr;simp at hs;obtain⟨rfl,rfl,rfl⟩:=hs;exact dW f _ q hf args H r1 H1 hr X φ w vargs ha hh hg
 ·rename_i q hf;refine⟨⟨_,_,hf⟩,?_⟩;split at hs
  case h_2=>cases hs
  rename_i r1 H1 hr;split at hs
  case h_2=>cases hs
  rename_i r' bs hz;split at hs
  case isFalse=>cases hs
  rename_i hc;obtain⟨hle,hge,dm⟩:=hc;simp at hs;obtain⟨rfl,rfl,rfl⟩:=hs;refine (dW f _ q hf args H r1 H1 hr X φ w vargs ha hh hg).mono ?_;rintro e w1 ⟨v',lV,rfl,r1,h1,a1⟩;have hlen:=hh.len;refine⟨v',lV.take φ.length,rfl,?_,by rw[hlen]; exact h1.take hle dm,a1.take⟩
  have hmem:∀{n:Nat} {l:List Nat},abj n l=true->∀b∈l,n<=b:=by
   intro n l
   induction l with
   |nil=>intro _ b hb; simp at hb
   |cons x r ih=>
     intro h b hb;simp only[abj,ae,decide_eq_true_eq] at h;rcases aG.1 hb with h'|h'
     ·subst h'; exact h.1
     ·exact ih h.2 b h'
  have Ii:=IL h1 (R:=Rd X (lV.take φ.length) w1) X0 Xv _ _ v' bs hz (fun b hb g sz jK o u hu=>?_) r1
  ·exact Ii.HH _
  ·refine⟨(h1.gJ ⟨b,sz,jK⟩).2,fun⟨b',pg,iE⟩=>?_,hu⟩;rw[bP] at iE;split at iE
   ·rename_i bF;have:=h1.inj b b' g sz pg jK iE;have:=hmem hge b hb;omega
   ·cases iE
 ·rename_i q hf;refine⟨⟨_,_,hf⟩,?_⟩;split at hs
  ·rename_i oi;split at hs
   case h_2=>cases hs
   rename_i r1 H1 hr;split at hs
   case h_2=>cases hs
   rename_i r' bs hz;simp at hs;obtain⟨rfl,rfl,rfl⟩:=hs;exact Fm dW hf hr hz hh hg ⟨ha.1,fun i x v hx hv=>(ha.2 i x v hx hv).dD (tn oi i x hx) []⟩
  ·split at hs
   case h_2=>cases hs
   rename_i uH bs hm;split at hs
   case h_2=>cases hs
   rename_i r1 H1 hr;split at hs
   case h_2=>cases hs
   rename_i r' bs' hz;split at hs
   ·rename_i amE;simp at hs;obtain⟨rfl,rfl,rfl⟩:=hs;have hh0:cj X [] w []:=⟨rfl,hh.Gg,fun b cs hb=>by simp at hb,fun b hb=>by simp at hb,fun b b' g sz pg h1=>by simp at h1⟩;have wO:∀{w':World} a u,Rd X φ w' a u->Rd X [] w' a u:=fun a u ⟨h1,_,h3⟩=>⟨h1,bQ.nil _,h3⟩;have IK:=SS hh (R:=Rd X [] w) wO hm (fun b _ g sz hb o u hu=>⟨(hh.gJ ⟨b,sz,hb⟩).2,bQ.nil _,hu⟩) ha;have hc:=Fm (X:=X) (φ:=[]) (H:=[]) dW hf hr hz hh0 (fun g=>(hg g).mono wO (.refl _)) IK;refine hc.mono ?_;rintro e w1 ⟨v',lV,rfl,r1,h1,a1⟩;exact⟨v',φ,rfl,r1.of_flat amE _ _,hh.of_same a1,.of_same a1⟩
   ·simp at hs;obtain⟨rfl,rfl,rfl⟩:=hs;obtain⟨k1,k2⟩:=cj.kill bs hh
    have IK:=SS hh (R:=Rd X (Ty φ bs) w) k2.rd hm (fun b hb g sz jK o u hu=>⟨(hh.gJ ⟨b,sz,jK⟩).2,fun⟨b',pg,iE⟩=>by
     obtain⟨e1,e2⟩:=Ox bs φ b' _ iE;exact e2 (hh.inj b b' g sz pg jK e1▸hb),hu⟩) ha
    have hc:=Fm dW hf hr hz k1 (hg.nZ k2) IK;refine hc.mono ?_;rintro e w1 ⟨v',lV,rfl,r1,h1,a1⟩;exact⟨v',lV,rfl,r1,h1,k2.trans a1⟩

theorem Du (dm:UU P c) {f:Nat} {m:Md} {q:fW} (hf:c.fn f=some (m,q)) (vargs:Array Value):(callFunc f vargs).run P w=.ok (.enter f vargs) w:=by
 obtain⟨fn,h1,h2⟩:=dm.fn f m q hf;simp only[chkF,ae,bJ] at h2;obtain⟨⟨⟨_,EB⟩,_⟩,vT⟩:=h2
 have hb:fn.body.isNone=false:=by
  cases hfb:fn.body with
  |none=>rw[hfb] at vT; cases vT
  |some b=>rfl
 simp only[callFunc,Sem.run_bind,run_program,Result.andThen_ok,h1,EB,hb,bk,if_false,Sem.run_pure]
theorem Ok.call {f:Nat} {vargs:Array Value} {r:AV} {H':Heap} (hr:(execOp a.eval o).run P w=.ok (.enter f vargs) w) (hc:Calls P f vargs w (Ret X φ w r H')):Ok P X φ w o a r H':=by
 intro K Q hK;unfold Oper.wp;rw[hr,Oper.upon_enter];refine hc.mono ?_;rintro e w' ⟨v',φ',rfl,r1,h1,a1⟩;exact hK v' w' φ' r1 h1 a1
theorem agM {call:Nat->List AV->Heap->Option (AV × Heap)} (dm:UU P c) (dW:Gd P c call) {ca:Call} {f:Nat} {ys:List E} {r:AV} {H':Heap} {fl:Fp} (fh:o.op=.call ca) (HP:ca.callee=.value (.func f))
  (hh:cj X φ w H) (he:qR X φ w env a.tmps) (hg:dX c X φ w) (oX:jB ca.args.toList ys=true) (hs:fO c call env H (.call f ys)=some (r,H',fl)):Ok P X φ w o a r H':=by
 obtain⟨hl,hr⟩:=pY he hg oX;obtain⟨⟨m,q,hf⟩,hc⟩:=OT (P:=P) dW hs hh hg (vargs:=ca.args.map a.eval) ⟨by simp[hl],fun i x v hx hv=>hr i x v hx (by simpa using hv)⟩;refine Ok.call ?_ hc;simp only[execOp,fh,resolve,HP,Act.eval,Deferred.ofValue,invoke,Sem.run_bind,Sem.run_pure,Result.andThen_ok,Array.empty_append,Array.append_empty];exact Du dm hf _
theorem adX {call:Nat->List AV->Heap->Option (AV × Heap)} (dm:UU P c) (dW:Gd P c call) {ca:Call} {x:Operand} {y:E} {ys:List E} {r:AV} {H':Heap} {fl:Fp} (fh:o.op=.call ca) (HP:ca.callee=.value x)
  (hh:cj X φ w H) (he:qR X φ w env a.tmps) (hg:dX c X φ w) (hx:cY x y=true) (oX:jB ca.args.toList ys=true) (hs:fO c call env H (.jC y ys)=some (r,H',fl)):Ok P X φ w o a r H':=by
 obtain⟨hl,hr⟩:=pY he hg oX;have rx:=bZ (a:=a) he hg hx;simp only[fO] at hs;split at hs
 case h_2=>cases hs
 rename_i f as bs hy;rw[hy] at rx;generalize Vb:a.eval x=ax at rx;cases rx with
 |func _ _ _ va _ vb hyy CW CV hra hrb=>
   have lG:ud X φ w (as++IM c env ys++bs) (va++ca.args.map a.eval++vb):=by
    have c1:Cs X φ w as va.toList:=⟨by simpa using CW,fun i x v hx hv=>hra i x v hx (by simpa using hv)⟩;have c2:Cs X φ w (IM c env ys) (ca.args.map a.eval).toList:=⟨by simp[hl],fun i x v hx hv=>hr i x v hx (by simpa using hv)⟩;have c3:Cs X φ w bs vb.toList:=⟨by simpa using CV,fun i x v hx hv=>hrb i x v hx (by simpa using hv)⟩;have c4:=(c1.append c2).append c3
    exact⟨by have:=c4.1; simp at this ⊢; omega,fun i x v hx hv=>c4.2 i x v hx (by
     have:(va++ca.args.map a.eval++vb).toList=va.toList++(ca.args.map a.eval).toList++vb.toList:=by simp
     rw[<-this,ff]; exact hv)⟩
   obtain⟨⟨m,q,hf⟩,hc⟩:=OT (P:=P) dW hs hh hg lG;refine Ok.call ?_ hc;simp only[execOp,fh,resolve,HP,Vb,Deferred.ofValue,invoke,Sem.run_bind,Sem.run_pure,Result.andThen_ok];exact Du dm hf _
end
end Go.Am

/- What one operation of the dump does, continued: maps. -/
namespace Go.Am
section
variable {P:Program} {c:eI} {X:Nat->Prop} {φ:dj} {w:World} {env:Env} {H:Heap} {a:Act} {o:Oper}

def IB (l:List AV):Prop:=∀c∈l,(∃k n,c=.int k n)\/∃ b,c=.bool b
theorem LI:∀{l:List Bool} {xs ys:List AV},Bb l xs ys=some true->xs=ys/\IB xs
 |[],xs,ys,h=>by
   cases xs<;>cases ys<;>simp[Bb] at h
   exact⟨rfl,fun c hc=>by cases hc⟩
 |true::l,xs,ys,h=>by
   obtain⟨k,a,r,b,s,e',rfl,rfl,h1,h2⟩:=Qz h;simp only[Gf,ae,beq_iff_eq] at h2;obtain⟨rfl,rfl⟩:=h2;obtain⟨rfl,h3⟩:=LI h1;refine⟨rfl,fun c hc=>?_⟩;rcases aG.1 hc with rfl|hc
   ·exact .inl ⟨_,_,rfl⟩
   ·exact h3 c hc
 |false::l,xs,ys,h=>by
   obtain⟨a,r,b,s,e',rfl,rfl,h1,h2⟩:=LJ h;simp only[Gf,ae,beq_iff_eq] at h2;obtain⟨rfl,rfl⟩:=h2;obtain⟨rfl,h3⟩:=LI h1;refine⟨rfl,fun c hc=>?_⟩;rcases aG.1 hc with rfl|hc
   ·exact .inr ⟨_,rfl⟩
   ·exact h3 c hc
theorem akY {R R':Addr->Value->Prop} {ψ:dj} {x:AV} {u v:Value} (h:(∃k n,x=.int k n)\/∃ b,x=.bool b) (h1:bO R φ x u) (h2:bO R' ψ x v):u=v:=by
 rcases h with⟨k,n,rfl⟩|⟨b,rfl⟩<;>cases h1<;>cases h2<;>rfl
theorem akZ {R:Addr->Value->Prop} {x:AV} {u:Value} (h:(∃k n,x=.int k n)\/∃ b,x=.bool b) (h1:bO R φ x u) (n:Nat):Instr.sameBits n u u=true:=by
 rcases h with⟨k,m,rfl⟩|⟨b,rfl⟩<;>cases h1<;>cases n<;>simp[Instr.sameBits]
theorem ak0 {R R':Addr->Value->Prop} {ψ:dj} {xs:List AV} (h:IB xs) {u v:Value} (h1:bO R φ (.agg xs) u) (h2:bO R' ψ (.agg xs) v):u=v/\∀ n,Instr.sameBits (n+1) u u=true:=by
 cases h1 with
 |agg _ _ va CW ha=>
   cases h2 with
   |agg _ _ vb CV hb=>
     have e:va=vb:=by
      apply Array.ext
      ·omega
      ·intro i i1 i2;obtain⟨x,hx⟩:=bq (l:=xs) (i:=i) (by omega);exact akY (h x (bn hx)) (ha i x _ hx (mN i1)) (hb i x _ hx (mN i2))
     subst e;refine⟨rfl,fun n=>?_⟩;simp only[Instr.sameBits,beq_self_eq_true,Bool.true_and,ph];rintro⟨p,q⟩ hpq;obtain⟨i,hi⟩:=bE hpq;rw[List.getElem?_zip_eq_some] at hi;obtain⟨i1,i2⟩:=hi;simp only at i1 i2;rw[i1] at i2;cases i2;obtain⟨x,hx⟩:=bq (l:=xs) (i:=i) (by have:=ak i1; simp at this; omega);exact akZ (h x (bn hx)) (ha i x p hx (by simpa using i1)) n
theorem TB {R R':Addr->Value->Prop} {ψ:dj} {K:Kt} {x y:AV} {u v:Value} (h:AW K x y=some true) (h1:bO R φ x u) (h2:bO R' ψ y v):u=v/\∀ n,Instr.sameBits (n+1) u u=true:=by
 unfold AW at h;split at h
 ·rename_i k k1 a k2 b;split at h
  ·rename_i hk;obtain⟨rfl,rfl⟩:=hk;simp at h;subst h;cases h1; cases h2;exact⟨rfl,fun n=>by simp[Instr.sameBits]⟩
  ·cases h
 ·rename_i a b;simp only[af] at h;obtain rfl:=(MapKept.bytes_beq a b).1 h;cases h1; cases h2;exact⟨rfl,fun n=>by simp only[Instr.sameBits]; exact (MapKept.bytes_beq a a).2 rfl⟩
 ·obtain⟨rfl,hib⟩:=LI h;exact ak0 hib h1 h2
 ·cases h
theorem aie {t:TypeId} {l:List Bool} (hc:tL P t (.kst l)=true) {xs ys:List AV} {u v:Value} {e:Bool} (h:Bb l xs ys=some e) (h1:bO (Rd X φ w) φ (.agg xs) u) (h2:bO (Rd X φ w) φ (.agg ys) v):(Op.equal t u v).run P w=.ok e w:=by
 cases h1 with
 |agg _ _ vx FV hrx=>
   cases h2 with
   |agg _ _ vy FU hry=>
     simp only[tL] at hc;split at hc
     ·rename_i fs hu;simp only[ae,bJ] at hc;obtain⟨⟨Va,IJ⟩,hc3⟩:=hc;have hfo:P.fieldsOf t=fs:=by simp[Program.fieldsOf,hu]
      show (Op.equalIn 10000 t (.agg vx) (.agg vy)).run P w=_;rw[show (10000:Nat)=9999+1 from rfl,run_equalIn_struct w 9999 t vx vy (by rw[hu,hfo]) Va,hfo];exact wu 9998 fs.toList l 0 xs ys vx vy e hc3 (by simpa using h) FV FU hrx hry
     ·cases hc
def Xt (X:Nat->Prop) (φ:dj) (w:World) (cs:List AV) (es:List MapEntry):Prop:=cs.length=es.length/\∀ (i:Nat) (c:AV) (e:MapEntry),cs[i]?=some c->es[i]?=some e->bO (Rd X φ w) φ c (.tuple #[e.key,e.val])
theorem Xt.tail {c:AV} {cs:List AV} {e:MapEntry} {es:List MapEntry} (h:Xt X φ w (c::cs) (e::es)):bO (Rd X φ w) φ c (.tuple #[e.key,e.val])/\Xt X φ w cs es:=
 ⟨h.2 0 c e rfl rfl,by have:=h.1; simpa using this,fun i c' e' h1 h2=>h.2 (i+1) c' e' (by simpa using h1) (by simpa using h2)⟩
theorem Rw {R:Addr->Value->Prop} {x y:AV} {u v:Value} (h:bO R φ (.dt [x,y]) (.tuple #[u,v])):bO R φ x u/\bO R φ y v:=by
 cases h with
 |dt _ _ vs hl h=>exact⟨h 0 x u rfl rfl,h 1 y v rfl rfl⟩
theorem D4 {R:Addr->Value->Prop} {x y:AV} {u v:Value} (h1:bO R φ x u) (h2:bO R φ y v):bO R φ (.dt [x,y]) (.tuple #[u,v]):=by
 refine .dt _ _ _ rfl fun i c z hc hz=>?_
 match i with
 |0=>simp at hc hz; subst hc; subst hz; exact h1
 |1=>simp at hc hz; subst hc; subst hz; exact h2
 |i+2=>simp at hc
def Found (X:Nat->Prop) (φ:dj) (w:World) (es:List MapEntry) (i:Nat) (u:Value):Option (Nat × AV)->Option (Nat × Value)->Prop
 |none,r=>r=none
 |some (n,v),r=>∃e,i<=n/\es[n-i]?=some e/\r=some (n,e.val)/\bO (Rd X φ w) φ v e.val/\e.key=u/\∀ m,Instr.sameBits (m+1) u u=true
theorem Found.next {es:List MapEntry} {e0:MapEntry} {i:Nat} {u:Value} {r:Option (Nat × AV)} {q:Option (Nat × Value)} (h:Found X φ w es (i+1) u r q):Found X φ w (e0::es) i u r q:=by
 cases r with
 |none=>exact h
 |some p=>
   obtain⟨n,v⟩:=p;obtain⟨e,h1,h2,h3⟩:=h;refine⟨e,by omega,?_,h3⟩;rw[show n-i=(n-(i+1))+1 by omega];simpa using h2
theorem CN {K:Kt} {x c:AV} {cs:List AV} {i:Nat} {r:Option (Nat × AV)} (h:iQ K x (c::cs) i=some r):∃k' v,c=.dt [k',v]/\((AW K x k'=some true/\r=some (i,v))\/(AW K x k'=some false/\iQ K x cs (i+1)=some r)):=by
 have shape:∃k' v,c=.dt [k',v]:=by
  cases c with
  |dt vs=>
    match vs,h with
    |[],h=>simp[iQ] at h
    |[_],h=>simp[iQ] at h
    |[k',v],h=>exact⟨k',v,rfl⟩
    |_::_::_::_,h=>simp[iQ] at h
  |_=>simp[iQ] at h
 obtain⟨k',v,rfl⟩:=shape;refine⟨k',v,rfl,?_⟩;simp only[iQ] at h;split at h
 ·rename_i hb;simp only[af] at h;exact .inl ⟨hb,h.symm⟩
 ·rename_i hb;exact .inr ⟨hb,h⟩
 ·cases h
theorem zY {d:TypeDesc} {K:Kt} (hd:(∃k,d=.int k/\K=.kint k)\/(d=.string/\K=.CR)) {x:AV} {u:Value} (rx:bO (Rd X φ w) φ x u):∀(cs:List AV) (es:List MapEntry) (i:Nat) (r:Option (Nat × AV)),iQ K x cs i=some r->Xt X φ w cs es ->
  ∃ q,Instr.findNow d u es i=some q/\Found X φ w es i u r q
 |[],es,i,r,h,he=>by
   obtain rfl:es=[]:=eC (by have:=he.1; simpa using this.symm);simp only[iQ,af] at h;subst h;exact⟨none,rfl,rfl⟩
 |c::cs,[],i,r,h,he=>by have:=he.1; simp at this
 |c::cs,e::es,i,r,h,he=>by
   obtain⟨rc,ht⟩:=he.tail;obtain⟨k',v,rfl,Lp⟩:=CN h;clear h;obtain⟨rk,rv⟩:=Rw rc
   have key:∀b,AW K x k'=some b->Instr.sameNow d u e.key=some b:=by
    intro b hb;generalize e.key=z at rk ⊢;rcases hd with⟨k,rfl,rfl⟩|⟨rfl,rfl⟩
    ·cases x<;>cases k'<;>simp only[AW] at hb<;>try (cases hb; done)
     split at hb
     ·rename_i hk;obtain⟨rfl,rfl⟩:=hk;cases rx; cases rk;simpa[Instr.sameNow] using hb
     ·cases hb
    ·cases x<;>cases k'<;>simp only[AW] at hb<;>try (cases hb; done)
     cases rx; cases rk;simpa[Instr.sameNow] using hb
   rcases Lp with⟨hb,rfl⟩|⟨hb,h⟩
   ·obtain⟨q1,q2⟩:=TB hb rx rk;exact⟨some (i,e.val),by simp only[Instr.findNow,key _ hb],e,aO _,by simp,rfl,rv,q1.symm,q2⟩
   ·obtain⟨q,h1,h2⟩:=zY hd rx cs es (i+1) r h ht;exact⟨q,by simp only[Instr.findNow,key _ hb]; exact h1,h2.next⟩
theorem ON {t:TypeId} {l:List Bool} (hc:tL P t (.kst l)=true) {x:AV} {u:Value} (rx:bO (Rd X φ w) φ x u):∀(cs:List AV) (es:List MapEntry) (i:Nat) (r:Option (Nat × AV)),iQ (.kst l) x cs i=some r->Xt X φ w cs es ->
  ∃ q,(Instr.findAsking t u es i).run P w=.ok q w/\Found X φ w es i u r q
 |[],es,i,r,h,he=>by
   obtain rfl:es=[]:=eC (by have:=he.1; simpa using this.symm);simp only[iQ,af] at h;subst h;exact⟨none,rfl,rfl⟩
 |c::cs,[],i,r,h,he=>by have:=he.1; simp at this
 |c::cs,e::es,i,r,h,he=>by
   obtain⟨rc,ht⟩:=he.tail;obtain⟨k',v,rfl,Lp⟩:=CN h;clear h;obtain⟨rk,rv⟩:=Rw rc
   have key:∀b,AW (.kst l) x k'=some b->(Op.equal t u e.key).run P w=.ok b w:=by
    intro b hb;generalize e.key=z at rk ⊢;cases x<;>cases k'<;>simp only[AW] at hb<;>try (cases hb; done)
    exact aie hc hb rx rk
   rcases Lp with⟨hb,rfl⟩|⟨hb,h⟩
   ·obtain⟨q1,q2⟩:=TB hb rx rk;exact⟨some (i,e.val),by simp[Instr.findAsking,key _ hb],e,aO _,by simp,rfl,rv,q1.symm,q2⟩
   ·obtain⟨q,h1,h2⟩:=ON hc rx cs es (i+1) r h ht;exact⟨q,by simp only[Instr.findAsking,Sem.run_bind,key _ hb,Result.andThen_ok,bk,if_false]; exact h1,h2.next⟩
theorem Uh {t:TypeId} {K:Kt} (hc:tL P t K=true) {x:AV} {u:Value} (rx:bO (Rd X φ w) φ x u) {cs:List AV} {es:List MapEntry} {r:Option (Nat × AV)} (h:iQ K x cs 0=some r) (he:Xt X φ w cs es) :
  ∃ q,(Instr.findKey t u es).run P w=.ok q w/\Found X φ w es 0 u r q:=by
 cases K with
 |kint k=>
   simp only[tL] at hc;split at hc
   ·rename_i k' hu;simp only[decide_eq_true_eq] at hc;subst hc;obtain⟨q,h1,h2⟩:=zY (d:=.int k) (.inl ⟨k,rfl,rfl⟩) rx cs es 0 r h he;exact⟨q,MapKept.run_findKey hu h1,h2⟩
   ·cases hc
 |CR=>
   simp only[tL] at hc;split at hc
   ·rename_i hu;obtain⟨q,h1,h2⟩:=zY (d:=.string) (.inr ⟨rfl,rfl⟩) rx cs es 0 r h he;exact⟨q,MapKept.run_findKey hu h1,h2⟩
   ·cases hc
 |kst l=>
   obtain⟨q,h1,h2⟩:=ON hc rx cs es 0 r h he;simp only[tL] at hc;split at hc
   ·rename_i fs hu;exact⟨q,by rw[run_findKey_eq w (by rw[hu]) u es]; exact h1,h2⟩
   ·cases hc
theorem C7 (em:Bool) (n:Nat):∀(fs:List Field) (l:List Bool) (off:Nat) (xs:List AV) (vx:Array Value),vh P off fs l=true->Bb l (xs.drop off) (xs.drop off)=some true->xs.length=vx.size ->
  (∀(i:Nat) (c:AV) (v:Value),xs[i]?=some c->vx[i]?=some v->bO (Rd X φ w) φ c v) ->
  (forIn (m := Sem) fs ME (fun f _ => if f.name ≠ "_" then (do
    let z <- part f.type vx f.offset
    Instr.checkKey em (n+1) f.type z
    pure (XE ME)) else pure (XE ME))).run P w=.ok ME w
 |[],_,_,_,_,_,_,_,_=>rfl
 |f::fs,[],off,xs,vx,h,_,_,_=>by simp[vh] at h
 |f::fs,b::l,off,xs,vx,h,he,hl,hr=>by
   simp only[vh,ae,decide_eq_true_eq] at h;obtain⟨⟨⟨Qm,EB⟩,IH⟩,OA⟩:=h
   have cell:∀(z:AV) (r:List AV),xs.drop off=z::r->(∃v,vx[off]?=some v)/\xs[off]?=some z/\xs.drop (off+1)=r:=by
    intro z r hd
    have h0:xs[off]?=some z:=by
     have h:=congrArg (·[0]?) hd;simp only[bf,Q8,B3] at h;exact h
    refine⟨bX (by have:=ak h0; omega),h0,?_⟩;rw[<-List.tail_drop,hd]; rfl
   split at IH
   ·rename_i k hu;subst IH;have EF:nf P f.type=some none:=by simp[nf,hu]
    have hna:=p9 (P:=P) (w:=w) EF;obtain⟨kx,a,r,b',s,e',hdx,_,hee,h9⟩:=Qz he;obtain⟨⟨vx0,hvx⟩,yx,hx1⟩:=cell _ _ hdx;obtain rfl:=iq (hr off _ vx0 yx hvx);obtain⟨k',hk'⟩:∃k',k'=k:=⟨k,rfl⟩
    have ih:=C7 em n fs l (off+1) xs vx OA (by
     rw[hx1];rename_i HO
     have:s=r:=by
      have:=hdx.symm.trans ‹xs.drop off=.int kx b'::s›;simp at this;exact this.2.symm
     subst this;rw[hee];simp only[Gf,ae] at h9;rw[h9.2]) hl hr
    rw[List.forIn_cons]
    have ck:(Instr.checkKey em (n+1) f.type (.int kx a)).run P w=.ok () w:=by
     unfold Instr.checkKey;simp only[Sem.run_bind,run_underlying hu,Result.andThen_ok];rfl
    simp only[EB,ne_eq,not_false_eq_true,if_true,part,Sem.run_bind,hna,Result.andThen_ok,bk,if_false,Qm,hvx,Sem.run_pure,ck];exact ih
   ·rename_i hu;simp only[bJ] at IH;subst IH;have EF:nf P f.type=some none:=by simp[nf,hu]
    have hna:=p9 (P:=P) (w:=w) EF;obtain⟨a,r,b',s,e',hdx,_,hee,h9⟩:=LJ he;obtain⟨⟨vx0,hvx⟩,yx,hx1⟩:=cell _ _ hdx;obtain rfl:=oE (hr off _ vx0 yx hvx)
    have ih:=C7 em n fs l (off+1) xs vx OA (by
     rw[hx1]
     have:s=r:=by
      have:=hdx.symm.trans ‹xs.drop off=.bool b'::s›;simp at this;exact this.2.symm
     subst this;rw[hee];simp only[Gf,ae] at h9;rw[h9.2]) hl hr
    rw[List.forIn_cons]
    have ck:(Instr.checkKey em (n+1) f.type (.bool a)).run P w=.ok () w:=by
     unfold Instr.checkKey;simp only[Sem.run_bind,run_underlying hu,Result.andThen_ok];rfl
    simp only[EB,ne_eq,not_false_eq_true,if_true,part,Sem.run_bind,hna,Result.andThen_ok,bk,if_false,Qm,hvx,Sem.run_pure,ck];exact ih
   ·cases IH
theorem O6 {t:TypeId} {K:Kt} (hc:tL P t K=true) {x:AV} {u:Value} (rx:bO (Rd X φ w) φ x u) (hs:AW K x x=some true) (em:Bool):(Instr.checkKey em 10000 t u).run P w=.ok () w:=by
 cases K with
 |kint k=>
   simp only[tL] at hc;split at hc
   ·rename_i k' hu;cases x<;>simp only[AW] at hs<;>try (cases hs; done)
    cases rx;unfold Instr.checkKey;simp only[Sem.run_bind,run_underlying hu,Result.andThen_ok];rfl
   ·cases hc
 |CR=>
   simp only[tL] at hc;split at hc
   ·rename_i hu;cases x<;>simp only[AW] at hs<;>try (cases hs; done)
    cases rx;unfold Instr.checkKey;simp only[Sem.run_bind,run_underlying hu,Result.andThen_ok];rfl
   ·cases hc
 |kst l=>
   simp only[tL] at hc;split at hc
   ·rename_i fs hu;simp only[ae,bJ] at hc;cases x<;>simp only[AW] at hs<;>try (cases hs; done)
    rename_i xs;cases rx with
    |agg _ _ vx hl hr=>
      have h:=C7 (X:=X) (φ:=φ) (w:=w) em 9998 fs.toList l 0 xs vx hc.2 (by simpa using hs) hl hr;unfold Instr.checkKey;simp only[Sem.run_bind,run_underlying hu,Result.andThen_ok];simp only[Nat.reduceAdd] at h;rw[<-Array.forIn_toList,h];rfl
   ·cases hc
theorem El {x:AV} {b:Nat} (h:mapOf x=some b):x=pQ b:=by
 unfold mapOf at h;split at h
 ·simp only[af] at h; subst h; rfl
 ·cases h
theorem wv {R:Addr->Value->Prop} {b:Nat} {v:Value} (h:bO R φ (pQ b) v):∃r,v=.map (some r)/\∀ g sz:Nat,φ[b]?=some (some (g,sz))->r=g/\sz=0:=by
 unfold pQ at h;cases h with
 |func _ _ _ _ _ _ hy=>cases hy
 |CI _ _ r hb h=>exact⟨r,rfl,h⟩
theorem aem (hh:cj X φ w H) {b:Nat} {cs:List AV} (hb:aJ H b=some cs) {v:Value} (r:bO (Rd X φ w) φ (pQ b) v):∃g es Vd,v=.map (some g)/\φ[b]?=some (some (g,0))/\w.heap[g]?=some (.map es Vd)/\¬ X g/\Xt X φ w cs es.toList:=by
 obtain⟨g,rfl,hg⟩:=wv r;obtain⟨g',sz,arr,o,h1,h2,h3,h4,h5,h6⟩:=hh.at hb;obtain⟨rfl,rfl⟩:=hg g' sz h1;rcases h3 with⟨e,_,h3⟩|⟨es,Vd,rfl,_,rfl⟩
 ·omega
 ·refine⟨g,es,Vd,rfl,h1,h2,h5,by have:=h4.2 rfl; simpa using this,fun i c e hc he=>?_⟩;obtain⟨u,hu,r⟩:=h6 i c hc;rw[tX] at hu;rw[ff] at he;rw[he] at hu;simp only[cD,af] at hu;rw[<-hu] at r;exact r
theorem agG {t:TypeId} (fh:o.op=.makeMap t none) (hh:cj X φ w H):Ok P X φ w o a (pQ H.length) (H++[some []]):=by
 obtain⟨h1,h2⟩:=hh.alC (w':=w.alloc (.map #[] 0)) rfl rfl rfl rfl (aO _);refine Ok.value (v':=.map (some w.heap.size)) ?_ ?_ h1 h2
 ·have hm:(Instr.makeMap t none).run P w=.ok (.map (some w.heap.size)) (w.alloc (.map #[] 0)):=rfl;simp[execOp,fh,hm]
 ·refine .CI _ _ _ (by simp[hh.len]) fun g sz hg=>?_;rw[<-hh.len] at hg;simp at hg;exact⟨hg.1,hg.2.symm⟩
theorem agJ {t kt et:TypeId} {x k:Operand} {K:Kt} {ok:Bool} {z xv kv:AV} {b:Nat} {cs:List AV} {r:Option (Nat × AV)} (fh:o.op=.lookup t x k ok) (hh:cj X φ w H) (hu:P.underlying t=some (.map kt et)) (hc:tL P kt K=true) (hz:Pw P et z=true)
  (rx:bO (Rd X φ w) φ xv (a.eval x)) (rk:bO (Rd X φ w) φ kv (a.eval k)) (hx:mapOf xv=some b) (hb:aJ H b=some cs) (hs:AW K kv kv=some true) (hf:iQ K kv cs 0=some r):Ok P X φ w o a (mgv ok z r) H:=by
 obtain rfl:=El hx;obtain⟨g,es,Vd,hv,jK,hg,hX,he⟩:=aem hh hb rx;obtain⟨q,hq,hfd⟩:=Uh hc rk hf he;have ED:=O6 hc rk hs es.isEmpty;unfold Pw at hz;split at hz
 case h_2=>cases hz
 rename_i inf hi;split at hz
 case h_2=>cases hz
 rename_i zv hzv;have rz:=F5 (R:=Rd X φ w) (ψ:=φ) hz
 have go:∀(v:Value),(match q with
   |some (_,v)=>(v,true)
   |none=>(zv,false))=(v,q.isSome)->(execOp a.eval o).run P w=.ok (.value (if ok then .tuple #[v,.bool q.isSome] else v)) w:=by
  intro v hvv;simp only[execOp,fh,hv,Instr.lookup,Sem.run_bind,run_underlying hu,Result.andThen_ok,MapKept.run_getObj_map hg,ED,hq,Sem.run_pure];cases q with
  |none=>
    simp only[aC] at hvv;obtain⟨rfl,_⟩:=hvv;simp[ti hi hzv]
  |some p=>
    obtain⟨n,u⟩:=p;simp only[aC] at hvv;obtain⟨rfl,_⟩:=hvv;simp
 cases r with
 |none=>
   obtain rfl:q=none:=hfd;refine Ok.quiet (go zv rfl) ?_ hh;cases ok
   ·exact rz
   ·exact D4 rz (.bool _ _)
 |some p=>
   obtain⟨n,v⟩:=p;obtain⟨e,_,_,rfl,rv,_⟩:=hfd;refine Ok.quiet (go e.val rfl) ?_ hh;cases ok
   ·exact rv
   ·exact D4 rv (.bool _ _)
theorem agF {t kt et:TypeId} {x k y:Operand} {K:Kt} {xv kv yv:AV} {b:Nat} {cs:List AV} {r:Option (Nat × AV)} (fh:o.op=.mapUpdate t x k y) (hh:cj X φ w H) (hu:P.underlying t=some (.map kt et)) (hc:tL P kt K=true)
  (rx:bO (Rd X φ w) φ xv (a.eval x)) (rk:bO (Rd X φ w) φ kv (a.eval k)) (ry:bO (Rd X φ w) φ yv (a.eval y)) (hx:mapOf xv=some b) (hb:aJ H b=some cs) (hs:AW K kv kv=some true) (hf:iQ K kv cs 0=some r):Ok P X φ w o a .undef (H.set b (some (CJ kv yv cs r))):=by
 obtain rfl:=El hx;obtain⟨g,es,Vd,hv,jK,hg,hX,he⟩:=aem hh hb rx;obtain⟨q,hq,hfd⟩:=Uh hc rk hf he;have ED:=O6 hc rk hs false;obtain⟨s1,s2⟩:=MapKept.heap_set (o':=Obj.map (es.push { key:=a.eval k,val:=a.eval y,born:=Vd }) (Vd+1)) hg;have ents:∀(i:Nat) (c:AV) (e:MapEntry),cs[i]?=some c->es[i]?=some e->bO (Rd X φ w) φ c (.tuple #[e.key,e.val]):=fun i c e h1 h2=>he.2 i c e h1 (by rw[ff]; exact h2);have hlen:cs.length=es.size:=by have:=he.1; simpa using this
 cases r with
 |none=>
   obtain rfl:q=none:=hfd
   obtain⟨h1,h2⟩:=hh.acn (b:=b) (g:=g) (w':={ w with heap:=w.heap.setIfInBounds g (Obj.map (es.push { key:=a.eval k,val:=a.eval y,born:=Vd }) (Vd+1)) }) (es':=es.push { key:=a.eval k,val:=a.eval y,born:=Vd }) (clk':=Vd+1) (cs':=CJ kv yv cs none) jK s1 s2 (by simp) rfl rfl rfl (aO _) hX (by simp[CJ,hlen]) (fun i c hi=>by
    unfold CJ at hi;simp only at hi;rw[tX,B6];by_cases bF:i<cs.length
    ·rw[aq bF] at hi;obtain⟨e,he'⟩:=bX (l:=es) (i:=i) (by omega);rw[if_neg (by omega),he'];exact⟨_,rfl,ents i c e hi he'⟩
    ·have wS:=ak hi;simp at wS;have hie:i=cs.length:=by omega
     subst hie;rw[aM (aO _)] at hi;simp at hi;subst hi;rw[if_pos hlen];exact⟨_,rfl,D4 rk ry⟩)
   refine Ok.skip ?_ h1 h2;simp only[execOp,fh,hv,Instr.mapUpdate,Sem.run_bind,run_underlying hu,Result.andThen_ok,MapKept.run_getObj_map hg,ED,hq,MapKept.run_setObj_map _ hg];rfl
 |some p=>
   obtain⟨n,v⟩:=p;obtain⟨e,_,hen,rfl,rv,hkey,Ll⟩:=hfd;rw[Vg] at hen;have hen':es[n]?=some e:=by rw[<-ff]; exact hen
   obtain⟨s1,s2⟩:=MapKept.heap_set (o':=Obj.map (es.modify n fun e=>{ e with key:=a.eval k,val:=a.eval y }) Vd) hg
   obtain⟨h1,h2⟩:=hh.acn (b:=b) (g:=g) (w':={ w with heap:=w.heap.setIfInBounds g (Obj.map (es.modify n fun e=>{ e with key:=a.eval k,val:=a.eval y }) Vd) }) (es':=es.modify n fun e=>{ e with key:=a.eval k,val:=a.eval y }) (clk':=Vd) (cs':=CJ kv yv cs (some (n,v))) jK s1 s2 (by simp) rfl rfl rfl (aO _) hX (by simp[CJ,hlen]) (fun i c hi=>by
    unfold CJ at hi;simp only at hi;rw[tX,Array.getElem?_modify];rw[aR] at hi;by_cases hni:n=i
    ·subst hni;rw[if_pos rfl] at hi ⊢;split at hi
     ·simp at hi;subst hi;rw[hen'];exact⟨_,rfl,D4 rk ry⟩
     ·simp at hi
    ·rw[if_neg hni] at hi ⊢;obtain⟨e',he'⟩:=bX (l:=es) (i:=i) (by have:=ak hi; omega);rw[he'];exact⟨_,rfl,ents i c e' hi he'⟩)
   refine Ok.skip ?_ h1 h2
   have hks:(Instr.keyThatStays (((es[n]?).map (·.key)).getD (a.eval k)) (a.eval k)).run P w=.ok (a.eval k) w:=by
    rw[hen'];simp only[cD,dY,hkey,Instr.keyThatStays];rw[Ll 9999];simp
   simp only[execOp,fh,hv,Instr.mapUpdate,Sem.run_bind,run_underlying hu,Result.andThen_ok,MapKept.run_getObj_map hg,ED,hq,hks,MapKept.run_setObj_map _ hg];rfl
end
end Go.Am

/- Every operation; regions in the order of the text, and regions that draw their order. -/
namespace Go.Am
section
variable {P:Program} {c:eI} {X:Nat->Prop} {φ:dj} {w:World} {env:Env} {H:Heap} {a:Act} {o:Oper}

theorem amk {call:Nat->List AV->Heap->Option (AV × Heap)} (dm:UU P c) (dW:Gd P c call) (he:qR X φ w env a.tmps) (hg:dX c X φ w) (hh:cj X φ w H) {kd:Kd} {v:AV} {H':Heap} {fl:Fp}
  (hk:cX P o.op kd=true) (hs:fO c call env H kd=some (v,H',fl)):Ok P X φ w o a v H':=by
 generalize fh:o.op=op at hk;unfold cX at hk;split at hk
 case h_1=>
  simp[fO] at hs; obtain⟨rfl,rfl,_⟩:=hs;exact Ok.quiet (by simp[execOp,fh]) (bZ he hg hk) hh
 case h_2=>
  simp[fO] at hs; obtain⟨rfl,rfl,_⟩:=hs;exact Ok.quiet (by simp[execOp,fh]) (bZ he hg hk) hh
 case h_3=>
  simp only[ae] at hk;simp only[fO] at hs;split at hs
  case h_2=>cases hs
  rename_i t ht;simp at hs; obtain⟨rfl,rfl,_⟩:=hs;have r:=bZ (a:=a) he hg hk.1.1;rw[ht] at r;exact agE fh hh r (bZ he hg hk.1.2) (bZ he hg hk.2)
 case h_4=>
  simp[fO] at hs; obtain⟨rfl,rfl,_⟩:=hs;exact V0 fh hh hk
 case h_5=>
  simp only[fO] at hs;split at hs
  case isFalse=>cases hs
  rename_i hl;simp at hs; obtain⟨rfl,rfl,_⟩:=hs;exact akA fh hh (bZ he hg hk) hl
 case h_6=>
  simp only[ae] at hk;simp only[fO] at hs;split at hs
  case h_2=>cases hs
  rename_i cs hf;simp at hs; obtain⟨rfl,rfl,_⟩:=hs;exact adZ fh hh he hg hk.1 hk.2 hf
 case h_7=>
  simp only[ae,decide_eq_true_eq] at hk;obtain⟨⟨⟨⟨h1,h2⟩,h3⟩,h4⟩,h5⟩:=hk;subst h1;simp only[fO] at hs;split at hs
  case h_2=>cases hs
  rename_i cs hf;split at hs
  case isFalse=>cases hs
  simp at hs; obtain⟨rfl,rfl,_⟩:=hs;exact abI fh hh he hg h2 h3 h4 h5 hf
 case h_8=>
  simp only[ae,decide_eq_true_eq] at hk;exact amn fh hh (bZ he hg hk.2) hk.1 hs
 case h_9=>
  simp only[ae] at hk;simp only[fO] at hs;split at hs
  case h_2=>cases hs
  rename_i b off hb;split at hs
  case h_2=>cases hs
  rename_i cs dI;split at hs
  case isFalse=>cases hs
  rename_i hc;simp at hs; obtain⟨rfl,rfl,_⟩:=hs;have r:=bZ (a:=a) he hg hk.1.2;rw[hb] at r;exact adM fh hh dI hk.1.1 r (bZ he hg hk.2) hc.1 hc.2.1 hc.2.2
 case h_10=>exact adO fh hh (bZ he hg hk) hs
 case h_11=>
  simp only[ae,decide_eq_true_eq] at hk;obtain⟨⟨h1,h2⟩,h3⟩:=hk;subst h1;simp only[fO] at hs;split at hs
  case h_2=>cases hs
  rename_i r hr;simp at hs; obtain⟨rfl,rfl,_⟩:=hs;exact akB fh hh (bZ he hg h2) (bZ he hg h3) hr
 case h_12=>
  simp only[ae] at hk;obtain⟨⟨⟨h1,h2⟩,h3⟩,h4⟩:=hk;simp only[fO] at hs;split at hs
  case h_2=>cases hs
  rename_i e hr;simp at hs; obtain⟨rfl,rfl,_⟩:=hs;have:=ok_eq fh hh h1 h2 (bZ he hg h3) (bZ he hg h4) hr;simpa using this
 case h_13=>
  simp only[ae,decide_eq_true_eq] at hk;obtain⟨h1,h2⟩:=hk;subst h1;simp only[fO] at hs;split at hs
  case h_2=>cases hs
  rename_i r hr;simp at hs; obtain⟨rfl,rfl,_⟩:=hs;exact amm fh hh (bZ he hg h2) hr
 case h_14=>
  simp only[ae] at hk;obtain⟨⟨h1,h2⟩,h3⟩:=hk;split at h2
  case h_2=>cases h2
  rename_i k' hu;simp at h2;subst h2;simp only[fO] at hs;split at hs
  case h_2=>cases hs
  rename_i k2 n hn;simp at hs; obtain⟨rfl,rfl,_⟩:=hs;have r:=bZ (a:=a) he hg h3;rw[hn] at r;exact aky fh hh h1 hu r
 case h_15=>
  simp only[ae,decide_eq_true_eq] at hk;obtain⟨⟨h1,h2⟩,h3⟩:=hk;subst h1;simp[fO] at hs; obtain⟨hyf,rfl,rfl,_⟩:=hs;exact akm fh hh he hg h2 h3 hyf
 case h_16=>
  simp only[ae] at hk;obtain⟨⟨⟨h1,h2⟩,h3⟩,h4⟩:=hk;simp only[fO] at hs;split at hs
  case h_2=>cases hs
  rename_i k1 l k2 cp hl hcp;split at hs
  case isFalse=>cases hs
  rename_i hc;simp at hs; obtain⟨rfl,rfl,_⟩:=hs;have r1:=bZ (a:=a) he hg h3;have r2:=bZ (a:=a) he hg h4;rw[hl] at r1;rw[hcp] at r2;exact akl fh hh h1 h2 r1 r2 hc.1 hc.2.1 hc.2.2
 case h_17=>
  simp only[ae] at hk;obtain⟨⟨⟨h1,h2⟩,h3⟩,h4⟩:=hk;exact akj fh hh he hg h1 h2 h3 h4 hs
 case h_18=>
  simp only[ae] at hk;exact akv fh hh (bZ he hg hk.2) hk.1 hs
 case h_19=>
  simp only[ae] at hk;exact aku fh hh (bZ he hg hk.2) hk.1 hs
 case h_20=>
  simp only[ae] at hk;exact aks fh hh (bZ he hg hk.1.2) (bZ he hg hk.2) hk.1.1 hs
 case h_21=>
  simp only[ae] at hk;exact akr fh hh (bZ he hg hk.1.2) (bZ he hg hk.2) hk.1.1 hs
 case h_22=>
  simp only[ae] at hk;exact amo fh hh (bZ he hg hk.1.2) (bZ he hg hk.2) hk.1.1 hs
 case h_23=>
  simp only[ae,decide_eq_true_eq] at hk;exact akq fh hh (bZ he hg hk.2) hk.1.1 hk.1.2 hs
 case h_24=>
  rename_i args argTypes k zs x;split at hk
  case h_2=>cases hk
  rename_i x' t h1 h2;simp only[ae] at hk;exact akz (x:=x') (t:=t) fh rfl (ib.1 h1) (ib.1 h2) hh (bZ he hg hk.2) hk.1.1 hk.1.2 hs
 case h_25=>
  simp only[ae,decide_eq_true_eq] at hk;obtain⟨h1,h2⟩:=hk;subst h1;simp only[fO] at hs;split at hs
  case h_2=>cases hs
  rename_i vs hv;split at hs
  case h_2=>cases hs
  rename_i u hu;simp at hs; obtain⟨rfl,rfl,_⟩:=hs;have r:=bZ (a:=a) he hg h2;rw[hv] at r;exact akw fh hh r hu
 case h_26=>
  simp only[ae,decide_eq_true_eq] at hk;obtain⟨h1,h2⟩:=hk;subst h1;exact agM dm dW fh rfl hh he hg h2 hs
 case h_27=>
  simp only[ae] at hk;exact adX dm dW fh rfl hh he hg hk.1 hk.2 hs
 case h_28=>
  rename_i args argTypes y;split at hk
  case h_2=>cases hk
  rename_i x t h1 h2;simp only[ae] at hk;exact ako (x:=x) (t:=t) fh rfl (ib.1 h1) (ib.1 h2) hh (bZ he hg hk.2) hk.1 hs
 case h_29=>
  rename_i args argTypes k x y;split at hk
  case h_2=>cases hk
  rename_i x' y' t t' h1 h2;simp only[ae,decide_eq_true_eq] at hk;obtain⟨⟨⟨h3,h4⟩,h5⟩,h6⟩:=hk;subst h3;exact akD (x:=x') (y:=y') (t:=t) fh rfl (ib.1 h1) (ib.1 h2) hh (bZ he hg h5) (bZ he hg h6) h4 hs
 case h_30=>
  simp only[fO] at hs;split at hs
  case h_2=>cases hs
  rename_i r hr;simp at hs; obtain⟨rfl,rfl,_⟩:=hs;exact adR (mx:=false) fh rfl hh he hg hk hr
 case h_31=>
  simp only[fO] at hs;split at hs
  case h_2=>cases hs
  rename_i r hr;simp at hs; obtain⟨rfl,rfl,_⟩:=hs;exact adR (mx:=true) fh rfl hh he hg hk hr
 case h_32=>
  simp only[ae] at hk;exact akC fh hh he hg hk.2.2 (bZ he hg hk.2.1) hk.1 hs
 case h_33=>
  rename_i args argTypes k x y;split at hk
  case h_2=>cases hk
  rename_i x' y' t t' h1 h2;simp only[ae] at hk;exact agL (x:=x') (y:=y') (t:=t) (t':=t') fh rfl (ib.1 h1) (ib.1 h2) hh (bZ he hg hk.1.2) (bZ he hg hk.2) hk.1.1 hs
 case h_34=>
  simp only[fO,af,aC] at hs; obtain⟨rfl,rfl,_⟩:=hs;exact agG fh hh
 case h_35=>
  simp only[ae,decide_eq_true_eq] at hk;obtain⟨⟨⟨rfl,h2⟩,h3⟩,h4⟩:=hk;split at h2
  case h_2=>cases h2
  rename_i key el hu;simp only[ae] at h2;simp only[fO] at hs;split at hs
  case h_2=>cases hs
  rename_i b hb;split at hs
  case h_2=>cases hs
  rename_i es hes;split at hs
  case isFalse=>cases hs
  rename_i hkq;split at hs
  case h_2=>cases hs
  rename_i r hr;simp only[af,aC] at hs; obtain⟨rfl,rfl,_⟩:=hs;exact agJ fh hh hu h2.1 h2.2 (bZ he hg h3) (bZ he hg h4) hb hes hkq hr
 case h_36=>
  simp only[ae] at hk;obtain⟨⟨⟨h2,h3⟩,h4⟩,h5⟩:=hk;split at h2
  case h_2=>cases h2
  rename_i key el hu;simp only[fO] at hs;split at hs
  case h_2=>cases hs
  rename_i b hb;split at hs
  case h_2=>cases hs
  rename_i es hes;split at hs
  case isFalse=>cases hs
  rename_i hkq;split at hs
  case h_2=>cases hs
  rename_i r hr;simp only[af,aC] at hs; obtain⟨rfl,rfl,_⟩:=hs;exact agF fh hh hu h2 (bZ he hg h3) (bZ he hg h4) (bZ he hg h5) hb hes hkq hr
 case h_37=>cases hs
 case h_38=>cases hk

structure SRel (X:Nat->Prop) (φ:dj) (w:World) (s:St) (a:Act) (N:Nat):Prop where
 env:qR X φ w s.env a.tmps
 heap:cj X φ w s.H
 defers:a.defers=[]
 size:a.tmps.size=N

theorem adn (a:Act) (d:Option Nat) (v:Value):(a.put d v).tmps.size=a.tmps.size/\(a.put d v).defers=a.defers:=by cases d<;>simp[Act.put]
theorem SRel.put {s:St} {N:Nat} {φ':dj} {w':World} {d:Option Nat} {v:AV} {v':Value} {H':Heap} (h:SRel X φ w s a N) (hd:∀i,d=some i->i<N) (r:bO (Rd X φ' w') φ' v v') (hh:cj X φ' w' H') (k:fg φ w φ' w') :
  SRel X φ' w' ⟨vF s.env d v,H'⟩ (a.put d v') N:=by
 obtain⟨h1,h2⟩:=adn a d v';refine⟨?_,hh,by rw[h2]; exact h.defers,by rw[h1]; exact h.size⟩;cases d with
 |none=>exact h.env.nZ k
 |some i=>exact (h.env.nZ k).put (by rw[h.size]; exact hd i rfl) r
theorem abV {ts:Array Value} {g:Nat} {b:Bool} (h:ts.getD g undef=.bool b):ts[g]?=some (.bool b):=by
 rw[bh] at h;cases hg:ts[g]? with
 |none=>rw[hg] at h; simp[undef] at h
 |some v=>rw[hg] at h; simp at h; rw[h]
theorem WL {ts:Array Value} {g:Nat} (h:ts.getD g undef=.tuple #[]):ts[g]?=none\/ts[g]?=some (.tuple #[]):=by
 rw[bh] at h;cases hg:ts[g]? with
 |none=>exact .inl rfl
 |some v=>rw[hg] at h; simp at h; rw[h]; exact .inr rfl

end
end Go.Am

/- Regions that draw their order: the order makes no difference. -/
namespace Go.Am
section
variable {P:Program} {c:eI} {call:Nat->List AV->Heap->Option (AV × Heap)}

theorem ik {e1 e2:Env} {x:E} (h:∀i∈x.slot,get e1 i=get e2 i):ev c e1 x=ev c e2 x:=by
 cases x with
 |t i=>exact h i (by simp[E.slot])
 |k x=>rfl
 |g i=>rfl
theorem pX {e1 e2:Env}:∀{xs:List E},(∀i∈pw xs,get e1 i=get e2 i)->IM c e1 xs=IM c e2 xs
 |[],_=>rfl
 |x::r,h=>by
   simp only[pw,aF] at h;simp only[IM];rw[ik fun i hi=>h i (.inl hi),pX fun i hi=>h i (.inr hi)]
theorem zZ {e1 e2:Env}:∀{ps:List (Nat × Nat × E)} {zs:List AV},(∀i∈th ps,get e1 i=get e2 i)->qO c e1 zs ps=qO c e2 zs ps
 |[],_,_=>by simp[qO]
 |(o,s,x)::r,zs,h=>by
   simp only[th,aF] at h;simp only[qO];rw[ik fun i hi=>h i (.inl hi)];split
   ·exact zZ fun i hi=>h i (.inr hi)
   ·rfl
theorem C8 {e1 e2:Env} {d m:Nat} {x:Option E} (h:∀i∈Nt x,get e1 i=get e2 i):EW c e1 d m x=EW c e2 d m x:=by
 cases x with
 |none=>rfl
 |some x=>simp only[EW]; rw[ik h]
theorem Pg {e1 e2:Env} {H:Heap} {kd:Kd} (h:∀i∈kd.reads,get e1 i=get e2 i):fO c call e1 H kd=fO c call e2 H kd:=by
 cases kd<;>simp only[Kd.reads,aF] at h<;>simp only[fO]
 case pick x y z=>rw[ik fun i hi=>h i (.inl hi),ik fun i hi=>h i (.inr (.inl hi)),ik fun i hi=>h i (.inr (.inr hi))]
 case build=>rw[zZ h]
 case dK=>rw[zZ h]
 case Fc k x lo hi=>rw[ik fun i hi=>h i (.inl hi)]; simp only[C8 (c:=c) fun i hi=>h i (.inr (.inl hi)),C8 (c:=c) fun i hi=>h i (.inr (.inr hi))]
 case Na n x u=>simp only[ik (c:=c) fun i hi=>h i (.inl hi),C8 (c:=c) fun i hi=>h i (.inr hi)]
 case call=>rw[pX h]
 case min=>rw[pX h]
 case max=>rw[pX h]
 case U0=>rw[pX fun i hi=>h i (.inl hi),pX fun i hi=>h i (.inr hi)]
 case jC=>rw[ik fun i hi=>h i (.inl hi),pX fun i hi=>h i (.inr hi)]
 case CH kt x k v=>rw[ik (x:=x) fun i hi=>h i (.inl hi),ik (x:=k) fun i hi=>h i (.inr (.inl hi)),ik (x:=v) fun i hi=>h i (.inr (.inr hi))]
 all_goals first
  |rfl
  |rw[ik h]
  |rw[ik fun i hi=>h i (.inl hi),ik fun i hi=>h i (.inr hi)]
theorem L9 {H:Heap} {b b':Nat} {x:Vf} (h:b≠b'):aJ (H.set b x) b'=aJ H b':=by
 unfold aJ; rw[cQ h]
theorem Mb {H T:Heap} {b:Nat} (h:b<H.length):aJ (H++T) b=aJ H b:=by
 unfold aJ; rw[aq h]
def Gc (fp:Fp) (H H':Heap) (v:AV) (f:Heap->Option (AV × Heap × Fp)):Prop:=
 (fp=.no->H'=H/\∀ H2,f H2=some (v,H2,.no))/\(∀b,fp=.rd b->H'=H/\∀ H2,aJ H2 b=aJ H b->f H2=some (v,H2,.rd b))/\(fp=.ra->H'=H) /\
 (∀n bs,fp=.wr n bs->∀b,b<n->b∉bs->aJ H' b=aJ H b)
theorem Gc.wr0 {H H':Heap} {v:AV} {f:Heap->Option (AV × Heap × Fp)}:Gc (.wr 0 []) H H' v f:=
 ⟨(fun h=>by cases h),(fun b h=>by cases h),(fun h=>by cases h),fun n bs h b hb=>by cases h; omega⟩
theorem Gc.no {H:Heap} {v:AV} {f:Heap->Option (AV × Heap × Fp)} (h:∀H2,f H2=some (v,H2,.no)):Gc .no H H v f:=
 ⟨fun _=>⟨rfl,h⟩,(fun b h=>by cases h),fun _=>rfl,(fun n bs h=>by cases h)⟩
theorem Gc.ra {H:Heap} {v:AV} {f:Heap->Option (AV × Heap × Fp)}:Gc .ra H H v f:=
 ⟨(fun h=>by cases h),(fun b h=>by cases h),fun _=>rfl,(fun n bs h=>by cases h)⟩
theorem Gc.rd {H:Heap} {v:AV} {b:Nat} {f:Heap->Option (AV × Heap × Fp)} (h:∀H2,aJ H2 b=aJ H b->f H2=some (v,H2,.rd b)):Gc (.rd b) H H v f:=
 ⟨(fun h=>by cases h),(fun b' hb=>by cases hb; exact⟨rfl,h⟩),fun _=>rfl,(fun n bs h=>by cases h)⟩
theorem Gc.wr {H H':Heap} {v:AV} {n:Nat} {bs:List Nat} {f:Heap->Option (AV × Heap × Fp)} (h:∀b,b<n->b∉bs->aJ H' b=aJ H b):Gc (.wr n bs) H H' v f:=
 ⟨(fun h=>by cases h),(fun b h=>by cases h),(fun h=>by cases h),fun n' bs' e=>by cases e; exact h⟩
theorem OU {f:Nat} {args:List AV} {H H':Heap} {v:AV} {fl:Fp} (h:Ab c call f args H=some (v,H',fl)):Gc fl H H' v (Ab c call f args):=by
 unfold Ab at h;split at h
 ·cases h
 ·split at h
  ·simp at h; obtain⟨_,_,rfl⟩:=h; exact .wr0
  ·cases h
 ·split at h
  ·split at h
   ·split at h
    ·simp at h; obtain⟨_,_,rfl⟩:=h; exact .wr0
    ·cases h
   ·cases h
  ·cases h
 ·rename_i q hf;split at h
  ·rename_i hp;split at h
   ·rename_i r H1 hr;split at h
    ·rename_i r' bs hz;simp at h;obtain⟨rfl,rfl,rfl⟩:=h;exact .no fun H2=>by simp[Ab,hf,hp,hr,hz]
    ·cases h
   ·cases h
  ·split at h
   ·split at h
    ·split at h
     ·split at h
      ·simp at h; obtain⟨_,rfl,rfl⟩:=h; exact .ra
      ·simp at h; obtain⟨_,_,rfl⟩:=h; exact .wr0
     ·cases h
    ·cases h
   ·cases h
theorem afK {env:Env} {H H':Heap} {kd:Kd} {v:AV} {fl:Fp} (h:fO c call env H kd=some (v,H',fl)):Gc fl H H' v (fun H2=>fO c call env H2 kd):=by
 have app:∀{T:Heap} (b:Nat),b<H.length->b∉([]:List Nat)->aJ (H++T) b=aJ H b:=fun b hb _=>Mb hb;have st:∀{x:Vf} {b0:Nat} (b:Nat),b<H.length->b∉[b0]->aJ (H.set b0 x) b=aJ H b:=fun b _ hn=>L9 (by simp at hn; exact fun e=>hn e.symm)
 have mv:∀{x:Vf} {T:Heap} {b0:Nat} (b:Nat),b<H.length->b∉[b0]->aJ (H.set b0 x++T) b=aJ H b:=fun b hb hn=>by
  rw[Mb (by simpa using hb)]; exact L9 (by simp at hn; exact fun e=>hn e.symm)
 have same:∀(b:Nat),b<H.length->b∉([]:List Nat)->aJ H b=aJ H b:=fun _ _ _=>rfl;cases kd
 case call f xs=>simp only[fO] at h ⊢; exact OU h
 case jC x xs=>
  simp only[fO] at h ⊢;split at h
  ·exact OU h
  ·cases h
 case ld ag x=>
  simp only[fO] at h ⊢;split at h
  ·rename_i cs hx;split at h
   ·rename_i u hu;simp at h;obtain⟨rfl,rfl,rfl⟩:=h;exact .no fun H2=>by simp[hu]
   ·cases h
  ·rename_i b off hx;split at h
   ·rename_i cs hb;split at h
    ·rename_i u hu;simp at h;obtain⟨rfl,rfl,rfl⟩:=h;exact .rd fun H2 h2=>by simp[h2,hb,hu]
    ·cases h
   ·cases h
  ·cases h
 case Na n x hi=>
  simp only[fO] at h ⊢;split at h
  case h_2=>cases h
  rename_i m hm;split at h
  ·split at h
   ·rename_i hc;simp at h;obtain⟨rfl,rfl,rfl⟩:=h;exact .no fun H2=>by simp[hc]
   ·cases h
  ·rename_i b off hx;split at h
   ·rename_i cs hb;split at h
    ·rename_i hc;simp at h;obtain⟨rfl,rfl,rfl⟩:=h;exact .rd fun H2 h2=>by simp[h2,hb,hc]
    ·cases h
   ·cases h
  ·cases h
 case Bs kt ok z x k=>
  simp only[fO] at h ⊢;split at h
  case h_2=>cases h
  rename_i b hx;split at h
  case h_2=>cases h
  rename_i es hb;split at h
  case isFalse=>cases h
  rename_i hq;split at h
  case h_2=>cases h
  rename_i r hr;simp at h;obtain⟨rfl,rfl,rfl⟩:=h;exact .rd fun H2 h2=>by simp[h2,hb,hq,hr]
 all_goals simp only[fO] at h ⊢
 all_goals
  (repeat' split at h)
  all_goals first
   |(cases h; done)
   |(simp at h; obtain⟨rfl,rfl,rfl⟩:=h; first|exact .wr app|exact .wr st|exact .wr mv|exact .wr same|(refine .no fun H2=>?_; simp_all; done))
def tf (c:eI) (call:Nat->List AV->Heap->Option (AV × Heap)) (env:Env) (H:Heap) (o:O):Option (AV × Heap × Fp):=
 match o.guard with
 |none=>fO c call env H o.kd
 |some (g,want)=>match get env g with
   |.bool b=>if b=want then fO c call env H o.kd else some (.undef,H,.no)
   |.undef=>some (.undef,H,.no)
   |_=>none
theorem yP {e1 e2:Env} {H:Heap} {q:O} (h:∀i∈q.reads,get e1 i=get e2 i):tf c call e1 H q=tf c call e2 H q:=by
 unfold tf;unfold O.reads at h;simp only[aF] at h;cases hg:q.guard with
 |none=>simp only[hg] at h ⊢; exact Pg fun i hi=>h i (.inr hi)
 |some p=>
   obtain⟨g,want⟩:=p;simp only[hg] at h ⊢;rw[h g (.inl (by simp)),Pg fun i hi=>h i (.inr hi)]
theorem Rj {env:Env} {H H':Heap} {q:O} {v:AV} {fl:Fp} (h:tf c call env H q=some (v,H',fl)):Gc fl H H' v (fun H2=>tf c call env H2 q):=by
 unfold tf at h ⊢;cases hg:q.guard with
 |none=>simp only[hg] at h ⊢; exact afK h
 |some p=>
   obtain⟨g,want⟩:=p;simp only[hg] at h ⊢;split at h
   ·split at h
    ·rename_i WE; simp only[WE,if_true]; exact afK h
    ·rename_i WE; simp only[WE,if_false]; simp at h; obtain⟨rfl,rfl,rfl⟩:=h; exact .no fun _=>rfl
   ·simp at h; obtain⟨rfl,rfl,rfl⟩:=h; exact .no fun _=>rfl
   ·cases h
theorem mem_iff {i:Nat}:∀{l:List Nat},mem i l=true ↔ i∈l
 |[]=>by simp[mem]
 |j::r=>by
   unfold mem;split
   ·rename_i h; simp[h]
   ·rename_i h; rw[mem_iff]; simp[h]
theorem lI {env:Env} {d:Option Nat} {v:AV} {i:Nat} (h:d≠some i):get (vF env d v) i=get env i:=by
 cases d with
 |none=>rfl
 |some d=>simp only[vF,bN]; rw[if_neg fun e=>h (by rw[e])]
theorem ahF {env:Env} {H H1 H2:Heap} {x y:O} {v1 v2:AV} {f1 f2:Fp} (hx:tf c call env H x=some (v1,H1,f1)) (hy:tf c call (vF env x.dst v1) H1 y=some (v2,H2,f2))
  (FW:jZ x y=true) (hf:f1.ok f2=true) :
  ∃ H2',tf c call env H y=some (v2,H2',f2)/\tf c call (vF env y.dst v2) H2' x=some (v1,H2,f1)/\∀ i,get (vF (vF env x.dst v1) y.dst v2) i=get (vF (vF env y.dst v2) x.dst v1) i:=by
 have a1:∀d,x.dst=some d->d∉y.reads/\y.dst≠some d:=by
  intro d hd;simp only[jZ,hd,ae,bJ,decide_eq_true_eq] at FW;refine⟨fun h=>?_,FW.1.2⟩;have:=mem_iff.2 h;rw[FW.1.1] at this;cases this
 have a2:∀d,y.dst=some d->d∉x.reads:=by
  intro d hd h;simp only[jZ,hd,ae,bJ] at FW;have:=mem_iff.2 h;rw[FW.2] at this;cases this
 have cy:∀Hq,tf c call (vF env x.dst v1) Hq y=tf c call env Hq y:=fun Hq=>yP fun i hi=>lI fun e=>(a1 i e).1 hi;have cx:∀Hq,tf c call (vF env y.dst v2) Hq x=tf c call env Hq x:=fun Hq=>yP fun i hi=>lI fun e=>a2 i e hi
 have he:∀i,get (vF (vF env x.dst v1) y.dst v2) i=get (vF (vF env y.dst v2) x.dst v1) i:=by
  intro i;by_cases h1:x.dst=some i
  ·have h2:=(a1 i h1).2;rw[lI h2,h1];simp[vF,bN]
  ·rw[lI (env:=vF env y.dst v2) h1];by_cases h2:y.dst=some i
   ·rw[h2]; simp[vF,bN]
   ·rw[lI h2,lI h2,lI h1]
 rw[cy] at hy;obtain⟨g0,g1,g2,g3⟩:=Rj hx;obtain⟨k0,k1,k2,k3⟩:=Rj hy;have nm:∀{b:Nat} {bs:List Nat},mem b bs=false->b∉bs:=fun h hm=>by rw[mem_iff.2 hm] at h; cases h
 cases f1 with
 |no=>
   obtain⟨rfl,h0⟩:=g0 rfl;exact⟨H2,hy,by rw[cx]; exact h0 H2,he⟩
 |rd b=>
   obtain⟨rfl,h0⟩:=g1 b rfl;cases f2 with
   |no=>obtain⟨rfl,_⟩:=k0 rfl; exact⟨_,hy,by rw[cx]; exact hx,he⟩
   |rd b'=>obtain⟨rfl,_⟩:=k1 b' rfl; exact⟨_,hy,by rw[cx]; exact hx,he⟩
   |ra=>obtain rfl:=k2 rfl; exact⟨_,hy,by rw[cx]; exact hx,he⟩
   |wr n bs=>
     simp only[Fp.ok,ae,decide_eq_true_eq,bJ] at hf;exact⟨H2,hy,by rw[cx]; exact h0 H2 (k3 n bs rfl b hf.1 (nm hf.2)),he⟩
 |ra=>
   obtain rfl:=g2 rfl;cases f2 with
   |no=>obtain⟨rfl,_⟩:=k0 rfl; exact⟨_,hy,by rw[cx]; exact hx,he⟩
   |rd b'=>obtain⟨rfl,_⟩:=k1 b' rfl; exact⟨_,hy,by rw[cx]; exact hx,he⟩
   |ra=>obtain rfl:=k2 rfl; exact⟨_,hy,by rw[cx]; exact hx,he⟩
   |wr n bs=>simp[Fp.ok] at hf
 |wr n bs=>
   cases f2 with
   |no=>obtain⟨rfl,h0⟩:=k0 rfl; exact⟨H,h0 H,by rw[cx]; exact hx,he⟩
   |rd b=>
     obtain⟨rfl,h0⟩:=k1 b rfl;simp only[Fp.ok,ae,decide_eq_true_eq,bJ] at hf;exact⟨H,h0 H (g3 n bs rfl b hf.1 (nm hf.2)).symm,by rw[cx]; exact hx,he⟩
   |ra=>simp[Fp.ok] at hf
   |wr n' bs'=>simp[Fp.ok] at hf

abbrev Ent:=Nat × Oper × O × Fp
def QN (c:eI) (call:Nat->List AV->Heap->Option (AV × Heap)):List Ent->Env->Heap->Env->Heap->Prop
 |[],e,H,e',H'=>(∀i,get e i=get e' i)/\H=H'
 |p::r,e,H,e',H'=>∃v H1,tf c call e H p.2.2.1=some (v,H1,p.2.2.2)/\QN c call r (vF e p.2.2.1.dst v) H1 e' H'
theorem QN.congr:∀{R:List Ent} {e1 e2:Env} {H:Heap} {e':Env} {H':Heap},(∀i,get e1 i=get e2 i)->QN c call R e1 H e' H'->QN c call R e2 H e' H'
 |[],e1,e2,H,e',H',h,hr=>⟨fun i=>(h i).symm.trans (hr.1 i),hr.2⟩
 |p::r,e1,e2,H,e',H',h,⟨v,H1,h1,h2⟩=>by
   refine⟨v,H1,by rw[<-yP fun i _=>h i]; exact h1,QN.congr (fun i=>?_) h2⟩;cases hd:p.2.2.1.dst with
   |none=>exact h i
   |some d=>simp only[vF,bN]; rw[h i]
theorem QN.QE {x:Ent}:∀{R1 R2:List Ent} {e:Env} {H:Heap} {e':Env} {H':Heap},(∀p∈R1,jZ p.2.2.1 x.2.2.1=true/\p.2.2.2.ok x.2.2.2=true)->QN c call (R1++x::R2) e H e' H'->QN c call (x::(R1++R2)) e H e' H'
 |[],R2,e,H,e',H',_,hr=>hr
 |p::R1,R2,e,H,e',H',h,⟨v,H1,h1,h2⟩=>by
   obtain⟨v2,H2,h3,h4⟩:=QN.QE (fun q hq=>h q (by simp[hq])) h2;obtain⟨FW,hf⟩:=h p (by simp);obtain⟨H2',k1,k2,k3⟩:=ahF h1 h3 FW hf;exact⟨v2,H2',k1,v,H2,k2,h4.congr k3⟩

inductive Anc (ops:Array Oper) (i:Nat):Nat->Prop
 |one {j:Nat} {o:Oper} (ho:ops[j]?=some o) (h:i∈direct o):Anc ops i j
 |via {j k:Nat} {o:Oper} (ho:ops[j]?=some o) (h:k∈direct o) (ha:Anc ops i k):Anc ops i j
theorem CO {o:Oper} {i:Nat}:i∈direct o ↔ ∃e∈o.after,Region.binds .any e=true/\e.on=i:=by
 unfold direct;simp only[List.mem_map,List.mem_filter,Vm];constructor
 ·rintro⟨e,⟨h1,h2⟩,h3⟩; exact⟨e,h1,h2,h3⟩
 ·rintro⟨e,h1,h2,h3⟩; exact⟨e,⟨h1,h2⟩,h3⟩
def Xy (ops:Array Oper) (listed:Array Bool):Prop:=∀j o,ops[j]?=some o->listed.getD j false=true->∀i∈direct o,listed.getD i false=true
theorem Xy.EX {ops:Array Oper} {listed:Array Bool} (h:Xy ops listed) {i j:Nat} (ha:Anc ops i j):∀o,ops[j]?=some o->(∀k∈direct o,listed.getD k false=true)->listed.getD i false=true:=by
 induction ha with
 |one ho hm=>intro o ho' hd; rw[ho] at ho'; cases ho'; exact hd _ hm
 |via ho hm ha ih=>
   intro o ho' hd;rw[ho] at ho';cases ho';have hk:=hd _ hm;cases ha with
   |one ho2 hm2=>exact h _ _ ho2 hk _ hm2
   |via ho2 hm2 ha2=>exact ih _ ho2 fun l hl=>h _ _ ho2 hk l hl
def afP (ops:Array Oper) (EX:List (List Nat)):Prop:=∀j l,EX[j]?=some l->∀i∈l,Anc ops i j
theorem Bc {i:Nat}:∀{l:List Nat},i∈dedup l->i∈l
 |[],h=>by simp[dedup] at h
 |x::r,h=>by
   unfold dedup at h;split at h
   ·exact cH _ (Bc h)
   ·rcases aG.1 h with h|h
    ·subst h; simp
    ·exact cH _ (Bc h)
theorem UL {ops:Array Oper} {EX:List (List Nat)} (h:afP ops EX) {j:Nat} {o:Oper} (ho:ops[j]?=some o):∀i∈Mo EX o,Anc ops i j:=by
 intro i hi;unfold Mo at hi;rcases aF.1 (Bc hi) with hi|hi
 ·exact .one ho hi
 ·obtain⟨k,hk,wi⟩:=List.mem_flatMap.1 hi;refine .via ho (Bc hk) ?_;rw[List.getD_eq_getElem?_getD] at wi;cases hl:EX[k]? with
  |none=>rw[hl] at wi; simp at wi
  |some l=>rw[hl] at wi; exact h k l hl i wi
end
end Go.Am

/- A run of the compact code is a run of the dump's code; calls; the theorem that ties a call to the kit's 'Calls'. -/
namespace Go.Am
section
variable {P:Program} {c:eI}

def Ex.to:Ex->Exit
 |.normal=>.normal
 |.exit id=>.exit id
 |.ret=>.ret

def LW (P:Program) (cd:Code) (Q:Exit->Act->World->Prop) (a:Act) (w:World):Prop:=
 ∀ (b:Frame) (k:List Item) (cs:List Frame),∃e a' w',Q e a' w'/\Arrives P (lone (b.at a (.code cd::.inLoop cd::k)) cs w) b k cs e a' w'
theorem LW.loop {cd:Code} {Q:Exit->Act->World->Prop} {a:Act} {w:World} (h:LW P cd Q a w):(Code.loop cd).wp P Q a w:=by
 intro b k cs;obtain⟨e,a',w',hq,T4⟩:=h b k cs;exact⟨e,a',w',hq,.of_steps (.one step_loop) T4⟩
theorem LW.step {cd:Code} {Q:Exit->Act->World->Prop} {a:Act} {w:World} (h:cd.wp P (Exit.then (LW P cd Q) Q) a w):LW P cd Q a w:=by
 intro b k cs;obtain⟨e,a1,w1,hq,T4⟩:=h b (.inLoop cd::k) cs;cases e with
 |normal=>
   obtain⟨e2,a2,w2,hq2,amL⟩:=hq b k cs;exact⟨e2,a2,w2,hq2,.of_steps (Steps.trans T4 (.one step_inLoop)) amL⟩
 |exit id=>exact⟨_,a1,w1,hq,.pass (x:=.inLoop cd) rfl (fun _ _=>.inl (by simp)) T4⟩
 |goto l=>exact⟨_,a1,w1,hq,.pass (x:=.inLoop cd) rfl (fun _ _=>.inl (by simp)) T4⟩
 |ret=>exact⟨_,a1,w1,hq,.pass (x:=.inLoop cd) rfl (fun _ _=>.inl (by simp)) T4⟩
 |panic ch=>exact⟨_,a1,w1,hq,.pass (x:=.inLoop cd) rfl (fun _ _=>.inl (by simp)) T4⟩
 |outgrown=>exact⟨_,a1,w1,hq,.pass (x:=.inLoop cd) rfl (fun _ _=>.inl (by simp)) T4⟩

theorem sZ:∀(args:List AV) (k i:Nat),get (dH k args) i=if k<=i then args[i-k]?.getD .any else .any
 |[],k,i=>by simp[dH,get]
 |x::r,k,i=>by
   simp only[dH,get];by_cases h:i=k
   ·subst h; simp
   ·rw[if_neg h,sZ r (k+1) i];by_cases h2:k+1<=i
    ·rw[if_pos h2,if_pos (by omega),show i-k=(i-(k+1))+1 by omega,pq]
    ·rw[if_neg h2,if_neg (by omega)]
theorem acD {X:Nat->Prop} {φ:dj} {w:World} {s:St} {ts:Array Value} (he:qR X φ w s.env ts) (hh:cj X φ w s.H):∀{rs:List ResultVar} {qs:List Rv} {xs:List AV},H5 P rs qs=true->Ru s.H s.env qs=some xs ->
  ∃ vs:List Value,(rs.mapM (m:=Sem) fun
   |.tmp t=>pure (ts.getD t undef)
   |.cell a t=>do loadVar t (<- asAddr (ts.getD a undef))).run P w=.ok vs w/\Cs X φ w xs vs
 |[],[],xs,_,h=>by simp[Ru] at h; subst h; exact⟨[],rfl,rfl,fun i c v hc=>by simp at hc⟩
 |[],_::_,_,h,_=>by simp[H5] at h
 |_::_,[],_,h,_=>by simp[H5] at h
 |r::rs,q::qs,xs,h,hx=>by
   simp only[H5,ae] at h;simp only[Ru] at hx;split at hx
   case h_2=>cases hx
   rename_i x ys h1 h2;simp at hx;subst hx;obtain⟨vs,e1,e2⟩:=acD he hh h.2 h2
   have one:∃v,(match r with
    |.tmp t=>pure (ts.getD t undef)
    |.cell a t=>do loadVar t (<- asAddr (ts.getD a undef)):Sem Value).run P w=.ok v w/\bO (Rd X φ w) φ x v:=by
    have hr:=h.1;unfold chkR at hr;split at hr
    ·rename_i t i;simp at hr;subst hr;simp[resA] at h1;subst h1;exact⟨_,rfl,he _⟩
    ·rename_i a t i ag;simp only[ae,decide_eq_true_eq] at hr;obtain⟨rfl,EF⟩:=hr;have r:=he a;simp only[resA] at h1;split at h1
     ·rename_i b off hg;split at h1
      case h_2=>cases h1
      rename_i cs dI;rw[hg] at r;obtain⟨g,sz,arr,e,h3,_,_,_,_,_,_,h4⟩:=Q6.V6 hh dI r;obtain⟨u,h5,h6⟩:=P7 EF h1 h4;exact⟨u,by simp[h3,asAddr,h5],h6⟩
     ·rename_i cs hg;rw[hg] at r;obtain⟨ad,h3,h4⟩:=Q6.aad r;obtain⟨u,h5,h6⟩:=P7 EF h1 h4;exact⟨u,by simp[h3,asAddr,h5],h6⟩
     ·cases h1
    ·cases hr
   obtain⟨v,e3,e4⟩:=one;refine⟨v::vs,?_,by simp[e2.1],fun i c u hc hu=>?_⟩
   ·simp only[List.mapM_cons,Sem.run_bind,Sem.run_pure];rw[e3];simp only[Result.andThen_ok];rw[e1];simp only[Result.andThen_ok]
   ·cases i with
    |zero=>simp at hc hu; subst hc; subst hu; exact e4
    |succ i=>simp at hc hu; exact e2.2 i c u hc hu
theorem Gi {X:Nat->Prop} {φ:dj} {w:World} {s:St} {ts:Array Value} {fn:Func} {qs:List Rv} {xs:List AV} (he:qR X φ w s.env ts) (hh:cj X φ w s.H) (hc:H5 P fn.results.toList qs=true) (hx:Ru s.H s.env qs=some xs) :
  ∃ v,(results fn ts).run P w=.ok v w/\bO (Rd X φ w) φ (qq xs) v:=by
 obtain⟨vs,h1,h2⟩:=acD (P:=P) he hh hc hx
 have h3:(fn.results.mapM (m:=Sem) fun
   |.tmp t=>pure (ts.getD t undef)
   |.cell a t=>do loadVar t (<- asAddr (ts.getD a undef))).run P w=.ok vs.toArray w:=by
  rw[<-Bp (xs:=fn.results),List.mapM_toArray];simp only[Sem.run_map];rw[h1];simp only[Result.andThen_ok]
 have h4:(results fn ts).run P w=(Result.ok vs.toArray w).andThen (fun (a:Array Value) w'=>(pure (if h:a.size=1 then a[0] else .tuple a):Sem Value).run P w'):=by
  unfold results;simp only[Sem.run_bind];exact congrArg (fun z=>Result.andThen z _) h3
 rw[h4];simp only[Result.andThen_ok,Sem.run_pure];refine⟨_,rfl,?_⟩;obtain⟨hl,hr⟩:=h2
 match xs,vs,hl,hr with
 |[],[],_,_=>exact .dt _ _ _ rfl fun i c v hc=>by simp at hc
 |[x],[v],_,hr=>exact hr 0 x v rfl rfl
 |x::y::xs,v::u::vs,hl,hr=>
   have e:¬((v::u::vs).toArray.size=1):=by simp
   rw[dif_neg e];exact .dt _ _ _ (by simpa using hl) fun i c z hc hz=>hr i c z hc (by simpa using hz)

end
end Go.Am
