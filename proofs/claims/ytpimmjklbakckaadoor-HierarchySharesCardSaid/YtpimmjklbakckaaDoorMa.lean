/- An abstract machine, and its soundness against the model. -/
import Derived.WalkKit
import Derived.Laws.StructEq
import Derived.Laws.MakeOwn
import Derived.Laws.Concat
import Derived.MapKept
import Derived.WideKeyRuns
import Derived.Scope
set_option linter.unusedVariables false
/- The abstract machine: values by value, a small heap of own blocks, and an interpreter with fuel for the compact code. -/
open Array renaming getD_eq_getD_getElem? → aW, getElem?_append_left → rU, getElem?_eq_getElem → j9, getElem?_eq_some_iff → ff, getElem?_map → rf, getElem?_push → xV, getElem?_toList → eF, length_toList → qo, map → Cc, mem_toList_iff → MW, range → xx, size_append → Un, toArray_toList → xw, toList_inj → gb
open Bool renaming and_eq_true → ae, false_eq_true → bk, not_eq_true' → bn, true_eq → Bz
open ForInStep renaming yield → OV
open List renaming all_eq_true → rT, append_assoc → dQ, eq_nil_of_length_eq_zero → dH, ext_getElem? → dq, getElem?_append_left → au, getElem?_append_right → aJ, getElem?_cons_succ → mR, getElem?_cons_zero → JB, getElem?_drop → aO, getElem?_map → cF, getElem?_of_mem → bt, getElem?_set → aQ, getElem?_set_ne → kf, getElem?_take → bC, getElem?_take_of_lt → aL, getElem?_toArray → wx, length_append → bw, length_cons → dz, length_drop → dR, length_take → bg, map_cons → eJ, mem_append → aC, mem_cons → aK, mem_cons_of_mem → eH, mem_of_getElem? → aU, size_toArray → ss
open Nat renaming add_mul → cj, add_zero → Cb, le_refl → aG, le_trans → MP, lt_of_lt_of_le → fM, mul_le_mul_right → bK, sub_zero → MN
open Option renaming getD_some → eX, isSome_iff_exists → aM, map_none → Cr, map_some → bV
open Option.some renaming injEq → af
open PUnit renaming unit → FH
open Prod.mk renaming injEq → aA
namespace Go.Am

inductive Rt where
 |s (i:Nat)|sc (i j:Nat)|c (b j:Nat)
 deriving DecidableEq,Inhabited
inductive AV where
 |any|undef|fg|fj|di
 |int (k:IntKind) (n:Int)
 |bool (b:Bool)
 |str (s:ByteArray)
 |agg (cs:List AV)
 |dA (vs:List AV)
 |list (k:Nat) (xs:List AV)
 |de (cs:List AV)
 |ptr (b off:Nat)
 |sl (k b off len:Nat)
 |func (fn:Fn) (first caps:List AV)
 |own (k:Nat) (xs:List AV)
 |du (k:Nat) (p:Rt) (off len:Nat)
 |eR (k:Nat) (p:Rt) (i off:Nat)
 deriving Inhabited

abbrev OP:=Option (List AV)
abbrev Heap:=List OP
abbrev Env:=List (Nat × AV)

def p7:Nat:=4294967296

def get:Env->Nat->AV
 |[],_=>.any
 |(j,u)::r,i=>if i=j then u else get r i
def put:Env->Nat->AV->Env
 |[],i,v=>[(i,v)]
 |(j,u)::r,i,v=>if i<j then (i,v)::(j,u)::r else if i=j then (i,v)::r else (j,u)::put r i v
def mem:Nat->List Nat->Bool
 |_,[]=>false
 |i,j::r=>if i=j then true else mem i r
def qO (keep:List Nat):Env->Env
 |[]=>[]
 |(j,u)::r=>if mem j keep then (j,u)::qO keep r else qO keep r
def sT (env:Env) (d:Option Nat) (v:AV):Env:=
 match d with
 |some d=>put env d v
 |none=>env
def dL:Nat->List AV->Env
 |_,[]=>[]
 |i,a::r=>(i,a)::dL (i+1) r

def AV.cells:AV->List AV
 |.agg cs=>cs
 |x=>[x]
def AV.leaf:AV->Bool
 |.any|.undef|.agg _|.dA _=>false
 |_=>true
def bm:List AV->Bool
 |[]=>true
 |x::r=>x.leaf&&bm r

mutual
def AV.plain:AV->Bool
 |.ptr _ _|.sl _ _ _ _=>false
 |.agg cs=>qF cs
 |.dA cs=>qF cs
 |.func _ a b=>qF a&&qF b
 |_=>true
def qF:List AV->Bool
 |[]=>true
 |x::r=>x.plain&&qF r
end
mutual
def AV.flat:AV->Bool
 |.ptr _ _|.sl _ _ _ _|.list _ _|.de _=>false
 |.agg cs=>B4 cs
 |.dA cs=>B4 cs
 |.func _ a b=>B4 a&&B4 b
 |_=>true
def B4:List AV->Bool
 |[]=>true
 |x::r=>x.flat&&B4 r
end
mutual
def AV.tx (n:Nat):AV->Bool
 |.ptr b _=>decide (b<n)
 |.sl _ b _ _=>decide (b<n)
 |.agg cs=>nO n cs
 |.dA cs=>nO n cs
 |.func _ a b=>nO n a&&nO n b
 |_=>true
def nO (n:Nat):List AV->Bool
 |[]=>true
 |x::r=>x.tx n&&nO n r
end
def yN (n:Nat):Heap->Bool
 |[]=>true
 |none::r=>yN n r
 |some cs::r=>nO n cs&&yN n r

def aN (H:Heap) (b:Nat):Option (List AV):=
 match H[b]? with
 |some (some cs)=>some cs
 |_=>none
def el:List AV->AV
 |[.agg cs]=>.agg [.agg cs]
 |[x]=>x
 |cs=>.agg cs
def IU (k:Nat):Nat->List AV->List AV
 |0,_=>[]
 |n+1,cs=>el (cs.take k)::IU k n (cs.drop k)
def AQ (f:AV->Option (AV × List Nat)):List AV->Option (List AV × List Nat)
 |[]=>some ([],[])
 |x::r=>match f x,AQ f r with
   |some (y,b),some (ys,bs)=>some (y::ys,b++bs)
   |_,_=>none
def uF:Fn->Bool
 |.yield _=>true
 |_=>false
def Bj (H:Heap):Nat->AV->Option (AV × List Nat)
 |0,_=>none
 |n+1,x=>match x with
   |.ptr b off=>match aN H b with
     |some cs=>match AQ (Bj H n) (cs.drop off) with
       |some (ys,bs)=>some (.de ys,b::bs)
       |none=>none
     |none=>none
   |.sl k b off len=>match aN H b with
     |some cs=>if off+len*k<=cs.length then
       match AQ (Bj H n) ((cs.drop off).take (len*k)) with
       |some (ys,bs)=>some (.list k (IU k len ys),b::bs)
       |none=>none
       else none
     |none=>none
   |.agg cs=>match AQ (Bj H n) cs with
     |some (ys,bs)=>some (.agg ys,bs)
     |none=>none
   |.dA cs=>match AQ (Bj H n) cs with
     |some (ys,bs)=>some (.dA ys,bs)
     |none=>none
   |.func f a c=>match uF f,AQ (Bj H n) a,AQ (Bj H n) c with
     |false,some (ys,bs),some (zs,cs)=>some (.func f ys zs,bs++cs)
     |_,_,_=>none
   |x=>some (x,[])
def Sf (n:Nat):List Nat->Bool
 |[]=>true
 |b::r=>decide (n<=b)&&Sf n r
def kill:Heap->List Nat->Heap
 |H,[]=>H
 |H,b::r=>kill (H.set b none) r
def OL:Nat:=8

inductive E where
 |t (i:Nat)|k (x:AV)|g (i:Nat)
 deriving Inhabited

inductive Et where
 |bool|str (ints:List Bool)|Nz|DY|Zj
 deriving Inhabited

inductive Kt where
 |Wv (k:IntKind)|yE|kst (ints:List Bool)
 deriving Inhabited
inductive Kd where
 |mv (x:E)|pick (c a b:E)
 |new (zs:List AV)|box (x:E)
 |build (zs:List AV) (parts:List (Nat × Nat × E))
 |eL (k n:Nat) (zs:List AV) (parts:List (Nat × Nat × E))
 |ld (ag:Option Nat) (x:E)|st (k:Nat) (a v:E)
 |mA (x:E)
 |bin (op:BinOp) (x y:E)|eq (neg:Bool) (t:Et) (x y:E)|un (op:UnOp) (x:E)|Jw (k:IntKind) (x:E)
 |KJ (fn:Fn) (first caps:List E)
 |Jq (k:Nat) (zs:List AV) (len cap:E)
 |FC (k:Nat) (x:E) (lo hi:Option E)
 |Aa (off:Nat) (x:E)|F9 (n:Nat) (x:E) (hi:Option E)|TR (off:Nat) (ag:Option Nat) (x:E)
 |tH (k:Nat) (x i:E)|Ci (n k:Nat) (x i:E)|ix (n k:Nat) (ag:Option Nat) (x i:E)
 |ext (i:Nat) (x:E)
 |call (f:Nat) (args:List E)|iR (x:E) (args:List E)
 |Ty (tab:List Nat) (i:E)|RZ (k:Nat) (zs:List AV) (x:E)
 |len (x:E)|app (k:Nat) (x y:E)|min (xs:List E)|max (xs:List E)|copy (k:Nat) (x y:E)
 |AO|xz (kt:Kt) (ok:Bool) (z:AV) (x k:E)|yu (kt:Kt) (x k v:E)
 |bad
 deriving Inhabited

structure O where
 dst:Option Nat
 guard:Option (Nat × Bool)
 kd:Kd
 deriving Inhabited

def E.slot:E->List Nat
 |.t i=>[i]
 |_=>[]
def mS:List E->List Nat
 |[]=>[]
 |x::r=>x.slot++mS r
def qz:List (Nat × Nat × E)->List Nat
 |[]=>[]
 |p::r=>p.2.2.slot++qz r
def Gl:Option E->List Nat
 |some x=>x.slot
 |none=>[]
def Kd.reads:Kd->List Nat
 |.mv x|.box x|.ld _ x|.mA x|.un _ x|.Jw _ x|.Aa _ x|.TR _ _ x|.ext _ x|.len x=>x.slot
 |.pick c a b=>c.slot++(a.slot++b.slot)
 |.new _=>[]
 |.bad=>[]
 |.AO=>[]
 |.xz _ _ _ x k=>x.slot++k.slot
 |.yu _ x k v=>x.slot++(k.slot++v.slot)
 |.Ty _ i=>i.slot
 |.RZ _ _ x=>x.slot
 |.build _ ps|.eL _ _ _ ps=>qz ps
 |.st _ x y|.bin _ x y|.eq _ _ x y|.Jq _ _ x y|.tH _ x y|.Ci _ _ x y|.ix _ _ _ x y|.app _ x y|.copy _ x y=>x.slot++y.slot
 |.KJ _ a b=>mS a++mS b
 |.FC _ x lo hi=>x.slot++(Gl lo++Gl hi)
 |.F9 _ x hi=>x.slot++Gl hi
 |.call _ xs|.min xs|.max xs=>mS xs
 |.iR x xs=>x.slot++mS xs
def Kd.pure:Kd->Bool
 |.mv _|.pick _ _ _|.build _ _|.mA _|.bin _ _ _|.eq _ _ _ _|.un _ _|.Jw _ _|.KJ _ _ _|.FC _ _ _ _|.Aa _ _|.TR _ _ _|.tH _ _ _|.Ci _ _ _ _|.ix _ _ _ _ _|.ext _ _|.Ty _ _|.len _|.min _|.max _=>true
 |_=>false
def O.reads (o:O):List Nat:=(match o.guard with
 |some (g,_)=>[g]
 |none=>[])++o.kd.reads

inductive Fp where
 |no|rd (b:Nat)|ra|wr (n:Nat) (bs:List Nat)
 deriving Inhabited
def Fp.ok:Fp->Fp->Bool
 |.no,_=>true
 |_,.no=>true
 |.rd _,.rd _=>true
 |.rd _,.ra=>true
 |.ra,.rd _=>true
 |.ra,.ra=>true
 |.rd b,.wr n bs=>decide (b<n)&&!mem b bs
 |.wr n bs,.rd b=>decide (b<n)&&!mem b bs
 |_,_=>false

inductive C where
 |skip|ret|exit (id:Nat)
 |rW (os:List O) (dr:Bool) (un:List (Nat × Nat)) (keep:List Nat)
 |seq (a b:C)|cond (c:E) (a b:C)|aN (id:Nat) (b:C)|loop (b:C)
 deriving Inhabited

inductive Md where|P|T|K
 deriving Inhabited
inductive Rv where|t (i:Nat)|c (i:Nat) (ag:Option Nat)
 deriving Inhabited
structure gR where
 n:Nat
 np:Nat
 res:List Rv
 body:C
 deriving Inhabited
structure dM where
 fn:Nat->Option (Md × gR)
 gl:Nat->List AV
 orc:Nat->Option (List AV->Heap->Option (AV × Heap))

inductive Ex where|normal|exit (id:Nat)|ret
 deriving Inhabited
structure St where
 env:Env
 H:Heap
 deriving Inhabited

def ev (c:dM) (env:Env):E->AV
 |.t i=>get env i
 |.k x=>x
 |.g i=>.de (c.gl i)
def CH (c:dM) (env:Env):List E->List AV
 |[]=>[]
 |x::r=>ev c env x::CH c env r

def AA (ag:Option Nat) (cs:List AV):Option AV:=
 match ag with
 |some k=>if k<=cs.length then some (.agg (cs.take k)) else none
 |none=>cs.head?
def iX (cs:List AV) (off:Nat) (vs:List AV):List AV:=cs.take off++vs++cs.drop (off+vs.length)
def idx (x:AV) (len:Nat):Option Nat:=
 match x with
 |.int _ i=>if 0<=i/\i<(len:Int) then some i.toNat else none
 |_=>none
def bnd (x:AV) (hi:Nat):Option Nat:=
 match x with
 |.int _ i=>if 0<=i/\i<=(hi:Int) then some i.toNat else none
 |_=>none
def Ai (c:dM) (env:Env) (dflt hi:Nat):Option E->Option Nat
 |none=>some dflt
 |some x=>bnd (ev c env x) hi
def oW (c:dM) (env:Env):List AV->List (Nat × Nat × E)->Option (List AV)
 |zs,[]=>some zs
 |zs,(off,sz,x)::r=>
   if (ev c env x).cells.length=sz/\off+sz<=zs.length/\bm (ev c env x).cells=true then oW c env (iX zs off (ev c env x).cells) r else none

def arith (op:BinOp) (k:IntKind) (x y:Int):Option AV:=
 match op with
 |.add=>some (.int k (k.wrap (x+y)))
 |.sub=>some (.int k (k.wrap (x-y)))
 |.mul=>some (.int k (k.wrap (x*y)))
 |.quo=>if y=0 then none else some (.int k (k.wrap (x.tdiv y)))
 |.rem=>if y=0 then none else some (.int k (x.tmod y))
 |.and=>some (.int k (bits .and k x y))
 |.or=>some (.int k (bits .or k x y))
 |.xor=>some (.int k (bits .xor k x y))
 |.andNot=>some (.int k (bits .andNot k x y))
 |.eql=>some (.bool (x == y))
 |.neq=>some (.bool (x != y))
 |.lss=>some (.bool (decide (x<y)))
 |.leq=>some (.bool (decide (x<=y)))
 |.gtr=>some (.bool (decide (y<x)))
 |.geq=>some (.bool (decide (y<=x)))
 |_=>none
def xf:List Bool->List AV->List AV->Option Bool
 |[],[],[]=>some true
 |true::l,.int k a::r,.int k' b::s=>if k=k' then match xf l r s with
   |some e=>some (a == b&&e)
   |none=>none
   else none
 |false::l,.bool a::r,.bool b::s=>match xf l r s with
   |some e=>some (a == b&&e)
   |none=>none
 |_,_,_=>none
def nB (b:Nat):AV:=.func (.yield 0) [] [.ptr b 0]
def mapOf:AV->Option Nat
 |.func (.yield 0) [] [.ptr b 0]=>some b
 |_=>none
def Tv (ok:Bool) (z:AV) (r:Option (Nat × AV)):AV:=
 match r with
 |some (_,v)=>if ok then .dA [v,.bool true] else v
 |none=>if ok then .dA [z,.bool false] else z
def yx (k v:AV) (es:List AV) (r:Option (Nat × AV)):List AV:=
 match r with
 |some (i,_)=>es.set i (.dA [k,v])
 |none=>es++[.dA [k,v]]
def wV:Kt->AV->AV->Option Bool
 |.Wv k,.int k1 a,.int k2 b=>if k1=k/\k2=k then some (a == b) else none
 |.yE,.str a,.str b=>some (a == b)
 |.kst l,.agg xs,.agg ys=>xf l xs ys
 |_,_,_=>none
def gM (t:Kt) (k:AV):List AV->Nat->Option (Option (Nat × AV))
 |[],_=>some none
 |.dA [k',v]::r,i=>match wV t k k' with
   |some true=>some (some (i,v))
   |some false=>gM t k r (i+1)
   |none=>none
 |_::_,_=>none
def isNil:Et->AV->Option Bool
 |.Nz,.di=>some true
 |.Nz,.sl _ _ _ _=>some false
 |.Nz,.list _ (_::_)=>some false
 |.DY,.fg=>some true
 |.DY,.ptr _ _=>some false
 |.DY,.de _=>some false
 |.Zj,.fj=>some true
 |.Zj,.func f _ _=>if uF f then none else some false
 |_,_=>none
def TV:Et->AV->AV->Option Bool
 |.bool,.bool a,.bool b=>some (a == b)
 |.str l,.agg xs,.agg ys=>xf l xs ys
 |.Nz,x,.di=>isNil .Nz x
 |.DY,x,.fg=>isNil .DY x
 |.Zj,x,.fj=>isNil .Zj x
 |_,_,_=>none
def qg (op:BinOp) (x y:AV):Option AV:=
 match x,y with
 |.int k a,.int k' b=>match op with
   |.shl=>if b<0 then none else some (.int k (k.wrap (a*2 ^ (min b.toNat k.bits))))
   |.shr=>if b<0 then none else some (.int k (a.fdiv (2 ^ (min b.toNat k.bits))))
   |op=>if k=k' then arith op k a b else none
 |.str a,.str b=>match op with
   |.add=>if a.size+b.size<=1000000000 then some (.str (a++b)) else none
   |_=>none
 |_,_=>none
def M1 (op:UnOp) (x:AV):Option AV:=
 match op,x with
 |.neg,.int k n=>some (.int k (k.wrap (0-n)))
 |.xor,.int k n=>some (.int k (bits .xor k (if k.signed then -1 else k.max) n))
 |.not,.bool b=>some (.bool (!b))
 |_,_=>none
def az:List AV->List AV
 |[]=>[]
 |x::r=>x.cells++az r
def iz (H:Heap) (k:Nat):AV->Option (List AV × Nat)
 |.di=>some ([],0)
 |.list k' xs=>if k'=k then some (az xs,xs.length) else none
 |.sl k' b off len=>match aN H b with
   |some cs=>if k'=k/\off+len*k<=cs.length then some ((cs.drop off).take (len*k),len) else none
   |none=>none
 |_=>none
def Wp:AV->Option Nat
 |.di=>some 0
 |.list _ xs=>some xs.length
 |.sl _ _ _ len=>some len
 |_=>none
def yz (mx:Bool):AV->List AV->Option AV
 |x,[]=>some x
 |.int k a,.int _ b::r=>yz mx (.int k (if mx then (if b > a then b else a) else (if b<a then b else a))) r
 |_,_=>none
def xy (mx:Bool):List AV->Option AV
 |.int k a::r=>yz mx (.int k a) r
 |_=>none
def rep (zs:List AV):Nat->List AV
 |0=>[]
 |n+1=>zs++rep zs n

def vW (c:dM) (call:Nat->List AV->Heap->Option (AV × Heap)) (f:Nat) (args:List AV) (H:Heap):Option (AV × Heap × Fp):=
 match c.fn f with
 |none=>none
 |some (.K,_)=>match call f args H with
   |some (r,H')=>some (r,H',.wr 0 [])
   |none=>none
 |some (.T,_)=>match call f args H with
   |some (r,H')=>match Bj H' OL r with
     |some (r',bs)=>if H.length<=H'.length/\Sf H.length bs=true/\yN H.length (H'.take H.length)=true then some (r',H'.take H.length,.wr 0 []) else none
     |none=>none
   |none=>none
 |some (.P,_)=>if qF args then
   match call f args [] with
   |some (r,H')=>match Bj H' OL r with
     |some (r',_)=>some (r',H,.no)
     |none=>none
   |none=>none
   else match AQ (Bj H OL) args with
    |some (rR,bs)=>match call f rR [] with
      |some (r,H')=>match Bj H' OL r with
        |some (r',_)=>if r'.flat then some (r',H,.ra) else some (r',kill H bs,.wr 0 [])
        |none=>none
      |none=>none
    |none=>none

def fi (c:dM) (call:Nat->List AV->Heap->Option (AV × Heap)) (env:Env) (H:Heap):Kd->Option (AV × Heap × Fp)
 |.mv x=>some (ev c env x,H,.no)
 |.pick t a b=>match ev c env t with
   |.bool t=>some (if t then ev c env a else ev c env b,H,.no)
   |_=>none
 |.new zs=>some (.ptr H.length 0,H++[some zs],.wr H.length [])
 |.box x=>if bm (ev c env x).cells then some (.ptr H.length 0,H++[some (ev c env x).cells],.wr H.length []) else none
 |.build zs ps=>match oW c env zs ps with
   |some cs=>some (.agg cs,H,.no)
   |none=>none
 |.eL k n zs ps=>match oW c env (rep zs n) ps with
   |some cs=>if bm cs then some (.sl k H.length 0 n,H++[some cs],.wr H.length []) else none
   |none=>none
 |.ld ag x=>match ev c env x with
   |.de cs=>match AA ag cs with
     |some v=>some (v,H,.no)
     |none=>none
   |.ptr b off=>match aN H b with
     |some cs=>match AA ag (cs.drop off) with
       |some v=>some (v,H,.rd b)
       |none=>none
     |none=>none
   |_=>none
 |.st k a v=>match ev c env a with
   |.ptr b off=>match aN H b with
     |some cs=>if (ev c env v).cells.length=k/\off+k<=cs.length/\bm (ev c env v).cells=true then
       some (.undef,H.set b (some (iX cs off (ev c env v).cells)),.wr H.length [b]) else none
     |none=>none
   |_=>none
 |.mA x=>match ev c env x with
   |.ptr b off=>some (.ptr b off,H,.no)
   |.de cs=>some (.de cs,H,.no)
   |.func (.func f) a b=>some (.func (.func f) a b,H,.no)
   |_=>none
 |.bin op x y=>match qg op (ev c env x) (ev c env y) with
   |some v=>some (v,H,.no)
   |none=>none
 |.eq ng t x y=>match TV t (ev c env x) (ev c env y) with
   |some e=>some (.bool (if ng then !e else e),H,.no)
   |none=>none
 |.un op x=>match M1 op (ev c env x) with
   |some v=>some (v,H,.no)
   |none=>none
 |.Jw k x=>match ev c env x with
   |.int _ n=>some (.int k (k.wrap n),H,.no)
   |_=>none
 |.KJ fn a b=>if uF fn then none else some (.func fn (CH c env a) (CH c env b),H,.no)
 |.AO=>some (nB H.length,H++[some []],.wr H.length [])
 |.xz kt ok z x k=>match mapOf (ev c env x) with
   |some b=>match aN H b with
     |some es=>if wV kt (ev c env k) (ev c env k)=some true then
       match gM kt (ev c env k) es 0 with
       |some r=>some (Tv ok z r,H,.rd b)
       |none=>none
       else none
     |none=>none
   |none=>none
 |.yu kt x k v=>match mapOf (ev c env x) with
   |some b=>match aN H b with
     |some es=>if wV kt (ev c env k) (ev c env k)=some true then
       match gM kt (ev c env k) es 0 with
       |some r=>some (.undef,H.set b (some (yx (ev c env k) (ev c env v) es r)),.wr H.length [b])
       |none=>none
       else none
     |none=>none
   |none=>none
 |.Jq k zs l cp=>match ev c env l,ev c env cp with
   |.int _ l,.int _ cp=>if 0<=l/\l<=cp/\cp<=(p7:Int) then some (.sl k H.length 0 l.toNat,H++[some (rep zs l.toNat)],.wr H.length []) else none
   |_,_=>none
 |.FC k x lo hi=>match Wp (ev c env x) with
   |some n=>match Ai c env n n hi with
     |some h=>match Ai c env 0 h lo with
       |some l=>match ev c env x with
         |.di=>some (.di,H,.no)
         |.list k' xs=>if k'=k then some (.list k ((xs.take h).drop l),H,.no) else none
         |.sl k' b off _=>if k'=k then some (.sl k b (off+l*k) (h-l),H,.no) else none
         |_=>none
       |none=>none
     |none=>none
   |none=>none
 |.Aa off x=>match ev c env x with
   |.ptr b o=>some (.ptr b (o+off),H,.no)
   |.de cs=>some (.de (cs.drop off),H,.no)
   |_=>none
 |.F9 n x hi=>match Ai c env n n hi with
   |some m=>match ev c env x with
     |.de cs=>if n<=cs.length/\m=n/\bm (cs.take n)=true then some (.list 1 (cs.take n),H,.no) else none
     |.ptr b off=>match aN H b with
       |some cs=>if off+n<=cs.length then some (.sl 1 b off m,H,.rd b) else none
       |none=>none
     |_=>none
   |none=>none
 |.TR off ag x=>match ev c env x with
   |.agg cs=>match AA ag (cs.drop off) with
     |some v=>some (v,H,.no)
     |none=>none
   |_=>none
 |.tH k x i=>match ev c env x with
   |.list k' xs=>match idx (ev c env i) xs.length with
     |some j=>if k'=k then match xs[j]? with
       |some v=>some (.de v.cells,H,.no)
       |none=>none
       else none
     |none=>none
   |.sl k' b off len=>match idx (ev c env i) len with
     |some j=>if k'=k then some (.ptr b (off+j*k),H,.no) else none
     |none=>none
   |_=>none
 |.Ci n k x i=>match idx (ev c env i) n with
   |some j=>match ev c env x with
     |.ptr b off=>some (.ptr b (off+j*k),H,.no)
     |.de cs=>some (.de (cs.drop (j*k)),H,.no)
     |_=>none
   |none=>none
 |.ix n k ag x i=>match idx (ev c env i) n with
   |some j=>match ev c env x with
     |.agg cs=>match AA ag (cs.drop (j*k)) with
       |some v=>some (v,H,.no)
       |none=>none
     |_=>none
   |none=>none
 |.Ty tab i=>match idx (ev c env i) tab.length with
   |some j=>match tab[j]? with
     |some v=>some (.int .u8 v,H,.no)
     |none=>none
   |none=>none
 |.RZ k zs x=>match ev c env x with
   |.di=>some (.undef,H,.wr H.length [])
   |.list _ []=>some (.undef,H,.wr H.length [])
   |.sl k' b off len=>if len=0 then some (.undef,H,.wr H.length []) else match aN H b with
     |some cs=>if k'=k/\off+len*k<=cs.length then some (.undef,H.set b (some (iX cs off (rep zs len))),.wr H.length [b]) else none
     |none=>none
   |_=>none
 |.ext i x=>match ev c env x with
   |.dA vs=>match vs[i]? with
     |some v=>some (v,H,.no)
     |none=>none
   |_=>none
 |.call f args=>vW c call f (CH c env args) H
 |.iR x args=>match ev c env x with
   |.func (.func f) a b=>vW c call f (a++CH c env args++b) H
   |_=>none
 |.len x=>match Wp (ev c env x) with
   |some n=>some (.int .i64 n,H,.no)
   |none=>none
 |.app k x y=>match iz H k (ev c env y) with
   |some (news,m)=>match ev c env x with
     |.di=>if m=0 then some (.di,H,.wr H.length []) else if m<=p7/\bm news=true then some (.sl k H.length 0 m,H++[some news],.wr H.length []) else none
     |.sl k' b 0 n=>match aN H b with
       |some cs=>if k'=k/\n*k<=cs.length/\n+m<=p7/\bm news=true then some (.sl k H.length 0 (n+m),H.set b none++[some (cs.take (n*k)++news)],.wr H.length [b]) else none
       |none=>none
     |_=>none
   |none=>none
 |.min xs=>match xy false (CH c env xs) with
   |some v=>some (v,H,.no)
   |none=>none
 |.max xs=>match xy true (CH c env xs) with
   |some v=>some (v,H,.no)
   |none=>none
 |.copy k x y=>match iz H k (ev c env y) with
   |some (news,m)=>match ev c env x with
     |.di=>some (.int .i64 0,H,.wr H.length [])
     |.sl k' b off n=>match aN H b with
       |some cs=>if k'=k/\off+n*k<=cs.length/\bm news=true then some (.int .i64 (min m n:Nat),H.set b (some (iX cs off (news.take (min m n*k)))),.wr H.length [b]) else none
       |none=>none
     |_=>none
   |none=>none
 |.bad=>none

def UX (H:Heap) (env:Env):Rv->Option AV
 |.t i=>some (get env i)
 |.c i ag=>match get env i with
   |.ptr b off=>match aN H b with
     |some cs=>AA ag (cs.drop off)
     |none=>none
   |.de cs=>AA ag cs
   |_=>none
def JV (H:Heap) (env:Env):List Rv->Option (List AV)
 |[]=>some []
 |r::rs=>match UX H env r,JV H env rs with
   |some v,some vs=>some (v::vs)
   |_,_=>none
def nZ:List AV->AV
 |[x]=>x
 |vs=>.dA vs

end Go.Am

/- How abstract values stand for values of the model in a world. -/
namespace Go.Am

abbrev cX:=List (Option (Nat × Nat))
def bQ (φ:cX) (g:Nat):Prop:=∃b sz:Nat,φ[b]?=some (some (g,sz))
def Rd (X:Nat->Prop) (φ:cX) (w:World) (a:Addr) (u:Value):Prop:=¬X a.block/\¬ bQ φ a.block/\w.cell? a=some u

inductive bD (R:Addr->Value->Prop):cX->AV->Value->Prop
 |any (φ:cX) (v:Value):bD R φ .any v
 |undef (φ:cX):bD R φ .undef (.tuple #[])
 |fg (φ:cX):bD R φ .fg (.pointer none)
 |fj (φ:cX):bD R φ .fj .nilFunc
 |di (φ:cX):bD R φ .di (.slice none 0 0)
 |int (φ:cX) (k:IntKind) (n:Int):bD R φ (.int k n) (.int k n)
 |bool (φ:cX) (b:Bool):bD R φ (.bool b) (.bool b)
 |str (φ:cX) (s:ByteArray):bD R φ (.str s) (.string s)
 |agg (φ:cX) (cs:List AV) (vs:Array Value) (hl:cs.length=vs.size) (h:∀(i:Nat) (c:AV) (v:Value),cs[i]?=some c->vs[i]?=some v->bD R φ c v):bD R φ (.agg cs) (.agg vs)
 |dA (φ:cX) (cs:List AV) (vs:Array Value) (hl:cs.length=vs.size) (h:∀(i:Nat) (c:AV) (v:Value),cs[i]?=some c->vs[i]?=some v->bD R φ c v):bD R φ (.dA cs) (.tuple vs)
 |func (φ:cX) (f:Fn) (as:List AV) (va:Array Value) (bs:List AV) (vb:Array Value) (hy:uF f=false) (yL:as.length=va.size) (yK:bs.length=vb.size)
   (ha:∀(i:Nat) (c:AV) (v:Value),as[i]?=some c->va[i]?=some v->bD R φ c v) (hb:∀(i:Nat) (c:AV) (v:Value),bs[i]?=some c->vb[i]?=some v->bD R φ c v):bD R φ (.func f as bs) (.func f va vb)
 |uU (φ:cX) (k:Nat) (xs:List AV) (a:Addr) (n cap:Nat) (u:Nat->Nat->Value) (hn:n=xs.length) (iO:n<=cap) (hk:∀x∈xs,x.cells.length=k)
   (hu:∀(i j:Nat) (x c:AV),xs[i]?=some x->x.cells[j]?=some c->R (a.add (i*k+j)) (u i j))
   (h:∀(i j:Nat) (x c:AV),xs[i]?=some x->x.cells[j]?=some c->bD R [] c (u i j)):bD R φ (.list k xs) (.slice (some a) n cap)
 |j5 (φ:cX) (k:Nat):bD R φ (.list k []) (.slice none 0 0)
 |de (φ:cX) (cs:List AV) (a:Addr) (u:Nat->Value) (hu:∀(j:Nat) (c:AV),cs[j]?=some c->R (a.add j) (u j))
   (h:∀(j:Nat) (c:AV),cs[j]?=some c->bD R [] c (u j)):bD R φ (.de cs) (.pointer (some a))
 |ptr (φ:cX) (b off:Nat) (a:Addr) (hb:b<φ.length) (h:∀g sz:Nat,φ[b]?=some (some (g,sz))->a=⟨g,off,none⟩/\0<sz):bD R φ (.ptr b off) (.pointer (some a))
 |sl (φ:cX) (k b off len:Nat) (a:Addr) (cap:Nat) (hb:b<φ.length) (hc:len<=cap)
   (h:∀g sz:Nat,φ[b]?=some (some (g,sz))->(0<cap->a=⟨g,off,none⟩)/\off+cap*k<sz):bD R φ (.sl k b off len) (.slice (some a) len cap)
 |yw (φ:cX) (b r:Nat) (hb:b<φ.length) (h:∀g sz:Nat,φ[b]?=some (some (g,sz))->r=g/\sz=0):bD R φ (.func (.yield 0) [] [.ptr b 0]) (.map (some r))

theorem bD.vR {R:Addr->Value->Prop} {φ:cX} {f:Fn} {as bs:List AV} {v:Value} (h:bD R φ (.func f as bs) v) :
  (uF f=false/\∃ va vb,v=.func f va vb/\as.length=va.size/\bs.length=vb.size/\(∀(i:Nat) (c:AV) (v:Value),as[i]?=some c->va[i]?=some v->bD R φ c v)/\∀ (i:Nat) (c:AV) (v:Value),bs[i]?=some c->vb[i]?=some v->bD R φ c v) \/
  ∃ b r,f=.yield 0/\as=[]/\bs=[.ptr b 0]/\v=.map (some r)/\b<φ.length/\∀ g sz:Nat,φ[b]?=some (some (g,sz))->r=g/\sz=0:=by
 generalize hx:AV.func f as bs=x at h;cases h<;>cases hx
 case func hy yL ha yK hb=>exact .inl ⟨hy,_,_,rfl,yL,yK,ha,hb⟩
 case yw hb h=>exact .inr ⟨_,_,rfl,rfl,rfl,rfl,hb,h⟩
theorem aS {α:Type} {l:List α} {i:Nat} (h:i<l.length):∃x,l[i]?=some x:=⟨l[i],List.getElem?_eq_getElem h⟩
theorem bP {α:Type} {l:Array α} {i:Nat} (h:i<l.size):∃x,l[i]?=some x:=⟨l[i],j9 h⟩
theorem aj {α:Type} {l:List α} {i:Nat} {x:α} (h:l[i]?=some x):i<l.length:=(List.getElem?_eq_some_iff.1 h).1
theorem kP {α:Type} {l:Array α} {i:Nat} {x:α} (h:l[i]?=some x):i<l.size:=(ff.1 h).1

structure wk (φ φ':cX):Prop where
 len:φ.length<=φ'.length
 FQ:∀(b:Nat) (p:Nat × Nat),b<φ.length->φ'[b]?=some (some p)->φ[b]?=some (some p)
theorem wk.refl (φ:cX):wk φ φ:=⟨aG _,fun _ _ _ h=>h⟩
theorem wk.trans {a b c:cX} (h:wk a b) (k:wk b c):wk a c:=
 ⟨MP h.len k.len,fun i p hi hp=>h.FQ i p hi (k.FQ i p (fM hi h.len) hp)⟩

theorem bD.mono {R R':Addr->Value->Prop} (hR:∀a u,R a u->R' a u) {φ:cX} {x:AV} {v:Value} (h:bD R φ x v):∀{φ':cX},wk φ φ'->bD R' φ' x v:=by
 induction h with
 |any=>intro φ' _; exact .any _ _
 |undef=>intro φ' _; exact .undef _
 |fg=>intro φ' _; exact .fg _
 |fj=>intro φ' _; exact .fj _
 |di=>intro φ' _; exact .di _
 |int=>intro φ' _; exact .int _ _ _
 |bool=>intro φ' _; exact .bool _ _
 |str=>intro φ' _; exact .str _ _
 |agg φ cs vs hl h ih=>intro φ' hp; exact .agg _ _ _ hl fun i c v h1 h2=>ih i c v h1 h2 hp
 |dA φ cs vs hl h ih=>intro φ' hp; exact .dA _ _ _ hl fun i c v h1 h2=>ih i c v h1 h2 hp
 |yw φ b r hb h=>intro φ' hp; exact .yw _ _ _ (fM hb hp.len) fun g sz hg=>h g sz (hp.FQ _ _ hb hg)
 |func φ f as va bs vb hy yL yK ha hb WJ TD=>intro φ' hp; exact .func _ _ _ _ _ _ hy yL yK (fun i c v h1 h2=>WJ i c v h1 h2 hp) (fun i c v h1 h2=>TD i c v h1 h2 hp)
 |uU φ k xs a n cap u hn iO hk hu h ih=>intro φ' _; exact .uU _ _ _ _ _ _ u hn iO hk (fun i j x c h1 h2=>hR _ _ (hu i j x c h1 h2)) (fun i j x c h1 h2=>ih i j x c h1 h2 (.refl _))
 |j5=>intro φ' _; exact .j5 _ _
 |de φ cs a u hu h ih=>intro φ' _; exact .de _ _ _ u (fun j c h1=>hR _ _ (hu j c h1)) (fun j c h1=>ih j c h1 (.refl _))
 |ptr φ b off a hb h=>intro φ' hp; exact .ptr _ _ _ _ (fM hb hp.len) fun g sz hg=>h g sz (hp.FQ _ _ hb hg)
 |sl φ k b off len a cap hb hc h=>intro φ' hp; exact .sl _ _ _ _ _ _ _ (fM hb hp.len) hc fun g sz hg=>h g sz (hp.FQ _ _ hb hg)

theorem qE {cs:List AV} (h:qF cs=true):∀(i:Nat) (c:AV),cs[i]?=some c->c.plain=true:=by
 induction cs with
 |nil=>intro i c hc; simp at hc
 |cons x r ih=>
   simp only[qF,ae] at h;intro i c hc;cases i with
   |zero=>simp at hc; subst hc; exact h.1
   |succ i=>simp at hc; exact ih h.2 i c hc
theorem xe {cs:List AV} (h:B4 cs=true):∀(i:Nat) (c:AV),cs[i]?=some c->c.flat=true:=by
 induction cs with
 |nil=>intro i c hc; simp at hc
 |cons x r ih=>
   simp only[B4,ae] at h;intro i c hc;cases i with
   |zero=>simp at hc; subst hc; exact h.1
   |succ i=>simp at hc; exact ih h.2 i c hc
theorem ob {n:Nat} {cs:List AV} (h:nO n cs=true):∀(i:Nat) (c:AV),cs[i]?=some c->c.tx n=true:=by
 induction cs with
 |nil=>intro i c hc; simp at hc
 |cons x r ih=>
   simp only[nO,ae] at h;intro i c hc;cases i with
   |zero=>simp at hc; subst hc; exact h.1
   |succ i=>simp at hc; exact ih h.2 i c hc
theorem wg {cs:List AV} (h:bm cs=true):∀(i:Nat) (c:AV),cs[i]?=some c->c.leaf=true:=by
 induction cs with
 |nil=>intro i c hc; simp at hc
 |cons x r ih=>
   simp only[bm,ae] at h;intro i c hc;cases i with
   |zero=>simp at hc; subst hc; exact h.1
   |succ i=>simp at hc; exact ih h.2 i c hc

theorem bD.dx {R:Addr->Value->Prop} {φ:cX} {x:AV} {v:Value} (h:bD R φ x v):x.plain=true->∀ψ,bD R ψ x v:=by
 induction h with
 |any=>intro _ ψ; exact .any _ _
 |undef=>intro _ ψ; exact .undef _
 |fg=>intro _ ψ; exact .fg _
 |fj=>intro _ ψ; exact .fj _
 |di=>intro _ ψ; exact .di _
 |int=>intro _ ψ; exact .int _ _ _
 |bool=>intro _ ψ; exact .bool _ _
 |str=>intro _ ψ; exact .str _ _
 |agg φ cs vs hl h ih=>intro hp ψ; simp only[AV.plain] at hp; exact .agg _ _ _ hl fun i c v h1 h2=>ih i c v h1 h2 (qE hp i c h1) ψ
 |dA φ cs vs hl h ih=>intro hp ψ; simp only[AV.plain] at hp; exact .dA _ _ _ hl fun i c v h1 h2=>ih i c v h1 h2 (qE hp i c h1) ψ
 |func φ f as va bs vb hy yL yK ha hb WJ TD=>
   intro hp ψ;simp only[AV.plain,ae] at hp;exact .func _ _ _ _ _ _ hy yL yK (fun i c v h1 h2=>WJ i c v h1 h2 (qE hp.1 i c h1) ψ) (fun i c v h1 h2=>TD i c v h1 h2 (qE hp.2 i c h1) ψ)
 |uU φ k xs a n cap u hn iO hk hu h ih=>intro _ ψ; exact .uU _ _ _ _ _ _ u hn iO hk hu h
 |j5=>intro _ ψ; exact .j5 _ _
 |de φ cs a u hu h ih=>intro _ ψ; exact .de _ _ _ u hu h
 |ptr=>intro hp; simp[AV.plain] at hp
 |sl=>intro hp; simp[AV.plain] at hp
 |yw=>intro hp; simp[AV.plain,qF] at hp
theorem bD.of_flat {R:Addr->Value->Prop} {φ:cX} {x:AV} {v:Value} (h:bD R φ x v):x.flat=true->∀(R':Addr->Value->Prop) ψ,bD R' ψ x v:=by
 induction h with
 |any=>intro _ _ ψ; exact .any _ _
 |undef=>intro _ _ ψ; exact .undef _
 |fg=>intro _ _ ψ; exact .fg _
 |fj=>intro _ _ ψ; exact .fj _
 |di=>intro _ _ ψ; exact .di _
 |int=>intro _ _ ψ; exact .int _ _ _
 |bool=>intro _ _ ψ; exact .bool _ _
 |str=>intro _ _ ψ; exact .str _ _
 |agg φ cs vs hl h ih=>intro hp R' ψ; simp only[AV.flat] at hp; exact .agg _ _ _ hl fun i c v h1 h2=>ih i c v h1 h2 (xe hp i c h1) R' ψ
 |dA φ cs vs hl h ih=>intro hp R' ψ; simp only[AV.flat] at hp; exact .dA _ _ _ hl fun i c v h1 h2=>ih i c v h1 h2 (xe hp i c h1) R' ψ
 |func φ f as va bs vb hy yL yK ha hb WJ TD=>
   intro hp R' ψ;simp only[AV.flat,ae] at hp;exact .func _ _ _ _ _ _ hy yL yK (fun i c v h1 h2=>WJ i c v h1 h2 (xe hp.1 i c h1) R' ψ) (fun i c v h1 h2=>TD i c v h1 h2 (xe hp.2 i c h1) R' ψ)
 |uU=>intro hp; simp[AV.flat] at hp
 |j5=>intro hp; simp[AV.flat] at hp
 |de=>intro hp; simp[AV.flat] at hp
 |ptr=>intro hp; simp[AV.flat] at hp
 |sl=>intro hp; simp[AV.flat] at hp
 |yw=>intro hp; simp[AV.flat,B4] at hp
theorem bD.take {R:Addr->Value->Prop} {φ:cX} {x:AV} {v:Value} {n:Nat} (h:bD R φ x v):x.tx n=true->bD R (φ.take n) x v:=by
 induction h with
 |any=>intro _; exact .any _ _
 |undef=>intro _; exact .undef _
 |fg=>intro _; exact .fg _
 |fj=>intro _; exact .fj _
 |di=>intro _; exact .di _
 |int=>intro _; exact .int _ _ _
 |bool=>intro _; exact .bool _ _
 |str=>intro _; exact .str _ _
 |agg φ cs vs hl h ih=>intro hp; simp only[AV.tx] at hp; exact .agg _ _ _ hl fun i c v h1 h2=>ih i c v h1 h2 (ob hp i c h1)
 |dA φ cs vs hl h ih=>intro hp; simp only[AV.tx] at hp; exact .dA _ _ _ hl fun i c v h1 h2=>ih i c v h1 h2 (ob hp i c h1)
 |func φ f as va bs vb hy yL yK ha hb WJ TD=>
   intro hp;simp only[AV.tx,ae] at hp;exact .func _ _ _ _ _ _ hy yL yK (fun i c v h1 h2=>WJ i c v h1 h2 (ob hp.1 i c h1)) (fun i c v h1 h2=>TD i c v h1 h2 (ob hp.2 i c h1))
 |uU φ k xs a n cap u hn iO hk hu h ih=>intro _; exact .uU _ _ _ _ _ _ u hn iO hk hu h
 |j5=>intro _; exact .j5 _ _
 |de φ cs a u hu h ih=>intro _; exact .de _ _ _ u hu h
 |ptr φ b off a hb h=>
   intro hp;have Lx:b<n:=by simpa[AV.tx] using hp
   refine .ptr _ _ _ _ (by rw[bg]; omega) fun g sz hg=>h g sz ?_;rw[aL Lx] at hg;exact hg
 |sl φ k b off len a cap hb hc h=>
   intro hp;have Lx:b<n:=by simpa[AV.tx] using hp
   refine .sl _ _ _ _ _ _ _ (by rw[bg]; omega) hc fun g sz hg=>h g sz ?_;rw[aL Lx] at hg;exact hg
 |yw φ b r hb h=>
   intro hp;have Lx:b<n:=by simpa[AV.tx,nO] using hp
   refine .yw _ _ _ (by rw[bg]; omega) fun g sz hg=>h g sz ?_;rw[aL Lx] at hg;exact hg
theorem bD.rD {R:Addr->Value->Prop} {φ:cX} {x:AV} {v:Value} (h:bD R φ x v) (hl:x.leaf=true):v.oneCell'=true:=by
 cases h<;>first|rfl|simp[AV.leaf] at hl

theorem bD.cells {R:Addr->Value->Prop} {φ:cX} {x:AV} {v:Value} (h:bD R φ x v) (hs:bm x.cells=true) :
  x.cells.length=v.cells.size/\∀ (i:Nat) (c:AV),x.cells[i]?=some c->∃u,v.cells[i]?=some u/\bD R φ c u/\u.oneCell'=true:=by
 have one:∀{x:AV} {v:Value},x.cells=[x]->v.cells=#[v]->bD R φ x v->bm x.cells=true ->
   x.cells.length=v.cells.size/\∀ (i:Nat) (c:AV),x.cells[i]?=some c->∃u,v.cells[i]?=some u/\bD R φ c u/\u.oneCell'=true:=by
  intro x v hx hv h hs;rw[hx,hv];refine⟨rfl,fun i c hc=>?_⟩;cases i with
  |zero=>
    simp at hc; subst hc;refine⟨v,by simp,h,h.rD ?_⟩;rw[hx] at hs; simpa[bm] using hs
  |succ i=>simp at hc
 cases h with
 |any=>simp[AV.cells,bm,AV.leaf] at hs
 |agg φ cs vs hl h=>
   refine⟨hl,fun i c hc=>?_⟩;have hi:i<vs.size:=hl▸aj hc;obtain⟨u,hu⟩:=bP hi;exact⟨u,hu,h i c u hc hu,(h i c u hc hu).rD (wg hs i c hc)⟩
 |_=>exact one rfl rfl (by first|exact .undef _|exact .fg _|exact .fj _|exact .di _|exact .int _ _ _|exact .bool _ _|exact .str _ _|exact .j5 _ _|(constructor<;>assumption)) hs

def Vw (o:Obj) (sz:Nat) (arr:Array Value):Prop:=
 (∃e,o=.cells arr e (0,0)/\arr.size+1=sz)\/(∃es MK,o=.map es MK/\sz=0/\arr=es.map fun e=>.tuple #[e.key,e.val])
theorem Vw.cells {o:Obj} {sz:Nat} {arr:Array Value} (h:Vw o sz arr) (h0:0<sz):∃e,o=.cells arr e (0,0)/\arr.size+1=sz:=by
 rcases h with h|⟨_,_,_,h,_⟩
 ·exact h
 ·omega
theorem Vw.leaf {o:Obj} {sz:Nat} {arr:Array Value} (h:Vw o sz arr) {i:Nat} {u:Value} (hu:arr[i]?=some u) {R:Addr->Value->Prop} {φ:cX} {x:AV} (r:bD R φ x u) (hx:x.leaf=true):∃e,o=.cells arr e (0,0)/\arr.size+1=sz:=by
 rcases h with h|⟨es,_,_,_,rfl⟩
 ·exact h
 ·rw[rf] at hu;cases he:es[i]? with
  |none=>rw[he] at hu; cases hu
  |some e=>
    rw[he] at hu;simp only[bV,af] at hu;subst hu;cases r<;>simp[AV.leaf] at hx
structure bO (X:Nat->Prop) (φ:cX) (w:World) (H:Heap):Prop where
 len:φ.length=H.length
 FK:∀g,X g->g<w.heap.size
 live:∀(b:Nat) (cs:List AV),H[b]?=some (some cs)->∃(g sz:Nat) (arr:Array Value) (o:Obj),φ[b]?=some (some (g,sz))/\w.heap[g]?=some o/\Vw o sz arr/\(cs.length<=arr.size/\(sz=0->cs.length=arr.size))/\¬ X g /\
  ∀ (i:Nat) (c:AV),cs[i]?=some c->∃u,arr[i]?=some u/\bD (Rd X φ w) φ c u
 dead:∀b:Nat,H[b]?=some none->φ[b]?=some none
 inj:∀b b' g sz o0:Nat,φ[b]?=some (some (g,sz))->φ[b']?=some (some (g,o0))->b=b'

structure eT (φ:cX) (w:World) (φ':cX) (w':World):Prop where
 os:w'.os=w.os
 tape:w'.tape=w.tape
 output:w'.output=w.output
 drawn:w.drawn<=w'.drawn
 size:w.heap.size<=w'.heap.size
 keep:∀g,g<w.heap.size->¬bQ φ g->w'.heap[g]?=w.heap[g]?/\¬ bQ φ' g
 QN:wk φ φ'
theorem eT.refl (φ:cX) (w:World):eT φ w φ w:=⟨rfl,rfl,rfl,aG _,aG _,fun _ _ h=>⟨rfl,h⟩,.refl _⟩
theorem eT.trans {φ φ' pe:cX} {w w' Uo:World} (h:eT φ w φ' w') (k:eT φ' w' pe Uo):eT φ w pe Uo:=
 ⟨k.os.trans h.os,k.tape.trans h.tape,k.output.trans h.output,MP h.drawn k.drawn,MP h.size k.size,
  fun g hg ho=>⟨(k.keep g (fM hg h.size) (h.keep g hg ho).2).1.trans (h.keep g hg ho).1,(k.keep g (fM hg h.size) (h.keep g hg ho).2).2⟩,h.QN.trans k.QN⟩
theorem eT.rd {X:Nat->Prop} {φ φ':cX} {w w':World} (h:eT φ w φ' w'):∀a u,Rd X φ w a u->Rd X φ' w' a u:=by
 intro a u ⟨h1,h2,h3⟩;have bY:=World.block_lt_of_cell? w a h3;exact⟨h1,(h.keep _ bY h2).2,(World.cell?_of_block (h.keep _ bY h2).1).trans h3⟩
theorem eT.rep {X:Nat->Prop} {φ φ':cX} {w w':World} (h:eT φ w φ' w') {x:AV} {v:Value} (r:bD (Rd X φ w) φ x v):bD (Rd X φ' w') φ' x v:=r.mono h.rd h.QN
theorem eT.drew (φ:cX) (w:World):eT φ w φ w.drew:=⟨rfl,rfl,rfl,Nat.le_succ _,aG _,fun _ _ h=>⟨rfl,h⟩,.refl _⟩

def oZ (X:Nat->Prop) (φ:cX) (w:World) (env:Env) (tmps:Array Value):Prop:=∀i,bD (Rd X φ w) φ (get env i) (tmps.getD i undef)
theorem bz (env:Env) (d:Nat) (v:AV) (i:Nat):get (put env d v) i=if i=d then v else get env i:=by
 induction env with
 |nil=>by_cases h:i=d<;>simp[put,get,h]
 |cons p r ih=>
   obtain⟨j,u⟩:=p;unfold put;split
   ·by_cases h:i=d<;>simp[get,h]
   ·split
    ·rename_i h1 h2;subst h2;by_cases h:i=d<;>simp[get,h]
    ·rename_i h1 h2;simp only[get,ih];by_cases h:i=j
     ·subst h; simp[Ne.symm h2]
     ·simp[h]
theorem oZ.put {X:Nat->Prop} {φ:cX} {w:World} {env:Env} {tmps:Array Value} (h:oZ X φ w env tmps) {d:Nat} (hd:d<tmps.size) {x:AV} {v:Value} (r:bD (Rd X φ w) φ x v) :
  oZ X φ w (put env d x) (tmps.setIfInBounds d v):=by
 intro i;rw[bz];by_cases hi:i=d
 ·subst hi;simp[hd,r]
 ·have:=h i;simpa[hi,Array.getElem?_setIfInBounds_ne (Ne.symm hi)] using this
theorem oZ.nN {X:Nat->Prop} {φ φ':cX} {w w':World} {env:Env} {tmps:Array Value} (h:oZ X φ w env tmps) (k:eT φ w φ' w'):oZ X φ' w' env tmps:=fun i=>k.rep (h i)

theorem Addr.add_add (a:Addr) (n m:Nat):(a.add n).add m=a.add (n+m):=by
 unfold Addr.add;by_cases hn:n=0
 ·subst hn; simp
 ·by_cases hm:m=0
  ·subst hm; simp[hn]
  ·simp[hn,hm,Nat.add_assoc]
theorem Addr.iq (g o n:Nat):Addr.add ⟨g,o,none⟩ n=⟨g,o+n,none⟩:=Addr.add_lit g o n
end Go.Am

/- The heap relation under the steps of the machine; freezing. -/
namespace Go.Am

theorem q6 {H:Heap} {b:Nat} {cs:List AV} (h:aN H b=some cs):H[b]?=some (some cs):=by
 unfold aN at h;split at h
 ·rename_i h'; rw[h']; simpa using h
 ·cases h
theorem bO.at {X:Nat->Prop} {φ:cX} {w:World} {H:Heap} (h:bO X φ w H) {b:Nat} {cs:List AV} (hb:aN H b=some cs) :
  ∃ (g sz:Nat) (arr:Array Value) (o:Obj),φ[b]?=some (some (g,sz))/\w.heap[g]?=some o/\Vw o sz arr/\(cs.length<=arr.size/\(sz=0->cs.length=arr.size))/\¬ X g /\
   ∀ (i:Nat) (c:AV),cs[i]?=some c->∃u,arr[i]?=some u/\bD (Rd X φ w) φ c u:=h.live b cs (q6 hb)
theorem bO.cat {X:Nat->Prop} {φ:cX} {w:World} {H:Heap} (h:bO X φ w H) {b:Nat} {cs:List AV} (hb:aN H b=some cs) (hs:∀g sz:Nat,φ[b]?=some (some (g,sz))->0<sz) :
  ∃ (g sz:Nat) (arr:Array Value) (e:TypeId),φ[b]?=some (some (g,sz))/\w.heap[g]?=some (.cells arr e (0,0))/\arr.size+1=sz/\cs.length<=arr.size/\¬ X g /\
   ∀ (i:Nat) (c:AV),cs[i]?=some c->∃u,arr[i]?=some u/\bD (Rd X φ w) φ c u:=by
 obtain⟨g,sz,arr,o,h1,h2,h3,h4,h5,h6⟩:=h.at hb;obtain⟨e,rfl,h7⟩:=h3.cells (hs g sz h1);exact⟨g,sz,arr,e,h1,h2,h7,h4.1,h5,h6⟩

theorem bQ.nil (g:Nat):¬bQ [] g:=fun⟨b,sz,h⟩=>by simp at h
theorem zw {φ:cX} {p:Nat × Nat} {g:Nat} (h:bQ (φ++[some p]) g):bQ φ g\/g=p.1:=by
 obtain⟨b,sz,hb⟩:=h;by_cases bY:b<φ.length
 ·rw[au bY] at hb;exact .inl ⟨b,sz,hb⟩
 ·rw[aJ (by omega)] at hb
  have h0:b-φ.length=0:=by
   have:=aj hb;simp at this; omega
  rw[h0] at hb;simp at hb;right; rw[hb]
theorem GK {φ:cX} {b g:Nat} (h:bQ (φ.set b none) g):bQ φ g:=by
 obtain⟨c,sz,hc⟩:=h;refine⟨c,sz,?_⟩;rw[aQ] at hc;split at hc
 ·split at hc<;>simp at hc
 ·exact hc

theorem eT.of_same {φ:cX} {w w':World} {ψ:cX} (h:eT [] w ψ w'):eT φ w φ w':=
 ⟨h.os,h.tape,h.output,h.drawn,h.size,fun g hg ho=>⟨(h.keep g hg (bQ.nil g)).1,ho⟩,.refl _⟩
theorem bO.of_same {X:Nat->Prop} {φ:cX} {w w':World} {H:Heap} {ψ:cX} (h:bO X φ w H) (a:eT [] w ψ w'):bO X φ w' H:=by
 have k:eT φ w φ w':=eT.of_same a;refine⟨h.len,fun g hg=>fM (h.FK g hg) a.size,fun b cs hb=>?_,h.dead,h.inj⟩;obtain⟨g,sz,arr,e,h1,h2,h3,h4,h5,h6⟩:=h.live b cs hb;refine⟨g,sz,arr,e,h1,?_,h3,h4,h5,fun i c hc=>?_⟩
 ·rw[(a.keep g (ff.1 h2).1 (bQ.nil g)).1]; exact h2
 ·obtain⟨u,hu,r⟩:=h6 i c hc;exact⟨u,hu,k.rep r⟩

theorem bO.X0 {X:Nat->Prop} {φ:cX} {w w':World} {H:Heap} (h:bO X φ w H) {o:Obj} {Gj:Nat} {arr:Array Value} (hV:Vw o Gj arr) (hw:w'.heap=w.heap.push o)
  (ho:w'.os=w.os) (ht:w'.tape=w.tape) (hp:w'.output=w.output) {cs:List AV} (hl:cs.length<=arr.size/\(Gj=0->cs.length=arr.size))
  (hc:∀(i:Nat) (c:AV),cs[i]?=some c->∃u,arr[i]?=some u/\bD (Rd X φ w) φ c u) (hd:w.drawn<=w'.drawn) :
  bO X (φ++[some (w.heap.size,Gj)]) w' (H++[some cs])/\eT φ w (φ++[some (w.heap.size,Gj)]) w':=by
 have own:∀g,bQ φ g->g<w.heap.size:=by
  intro g ⟨b,sz,hb⟩;have bY:b<H.length:=h.len▸aj hb;obtain⟨x,hx⟩:=aS bY;cases x with
  |none=>rw[h.dead b hx] at hb; simp at hb
  |some cs=>
    obtain⟨g',o0,arr,e,h1,h2,_⟩:=h.live b cs hx;rw[h1] at hb;simp at hb;rw[<-hb.1];exact (ff.1 h2).1
 have a:eT φ w (φ++[some (w.heap.size,Gj)]) w':=by
  refine⟨ho,ht,hp,hd,by rw[hw]; simp,fun g hg hn=>⟨?_,?_⟩,⟨by simp,fun b p hb hp=>?_⟩⟩
  ·rw[hw,xV,if_neg (by omega)]
  ·intro ho;rcases zw ho with h1|h1
   ·exact hn h1
   ·simp at h1; omega
  ·rwa [au hb] at hp
 refine⟨⟨by simp[h.len],fun g hg=>?_,fun b ds hb=>?_,fun b hb=>?_,fun b b' g sz o0 h1 h2=>?_⟩,a⟩
 ·rw[hw]; have:=h.FK g hg; simp; omega
 ·by_cases bY:b<H.length
  ·rw[au bY] at hb;obtain⟨g,sz,ar,e',h1,h2,h3,h4,h5,h6⟩:=h.live b ds hb;refine⟨g,sz,ar,e',by rw[au (by rw[h.len]; exact bY)]; exact h1,?_,h3,h4,h5,fun i c hc=>?_⟩
   ·rw[hw,xV,if_neg (by have:=(ff.1 h2).1; omega)]; exact h2
   ·obtain⟨u,hu,r⟩:=h6 i c hc;exact⟨u,hu,a.rep r⟩
  ·have iU:=aj hb;simp at iU;have LH:b=H.length:=by omega
   subst LH;simp at hb;subst hb;refine⟨w.heap.size,Gj,arr,o,by rw[<-h.len]; simp,by rw[hw]; simp,hV,hl,fun hx=>by have:=h.FK _ hx; omega,fun i c hi=>?_⟩;obtain⟨u,hu,r⟩:=hc i c hi;exact⟨u,hu,a.rep r⟩
 ·by_cases bY:b<H.length
  ·rw[au bY] at hb;rw[au (by rw[h.len]; exact bY)];exact h.dead b hb
  ·have iU:=aj hb;simp at iU;have LH:b=H.length:=by omega
   subst LH;simp at hb
 ·have new:∀(b g sz:Nat),(φ++[some (w.heap.size,Gj)])[b]?=some (some (g,sz))->(b<φ.length/\φ[b]?=some (some (g,sz))/\g<w.heap.size)\/(b=φ.length/\g=w.heap.size):=by
   intro b g sz hb;by_cases bY:b<φ.length
   ·rw[au bY] at hb;exact .inl ⟨bY,hb,own g ⟨b,sz,hb⟩⟩
   ·have iU:=aj hb;simp at iU;have LH:b=φ.length:=by omega
    subst LH;simp at hb;exact .inr ⟨rfl,hb.1.symm⟩
  rcases new b g sz h1 with⟨l1,e1,g1⟩|⟨l1,g1⟩<;>rcases new b' g o0 h2 with⟨l2,e2,g2⟩|⟨l2,g2⟩
  ·exact h.inj b b' g sz o0 e1 e2
  ·omega
  ·omega
  ·omega

theorem bO.alloc {X:Nat->Prop} {φ:cX} {w w':World} {H:Heap} (h:bO X φ w H) {arr:Array Value} {e:TypeId} (hw:w'.heap=w.heap.push (.cells arr e (0,0)))
  (ho:w'.os=w.os) (ht:w'.tape=w.tape) (hp:w'.output=w.output) {cs:List AV} (hl:cs.length<=arr.size)
  (hc:∀(i:Nat) (c:AV),cs[i]?=some c->∃u,arr[i]?=some u/\bD (Rd X φ w) φ c u) (hd:w.drawn<=w'.drawn) :
  bO X (φ++[some (w.heap.size,arr.size+1)]) w' (H++[some cs])/\eT φ w (φ++[some (w.heap.size,arr.size+1)]) w':=
 h.X0 (.inl ⟨e,rfl,rfl⟩) hw ho ht hp ⟨hl,fun z=>by omega⟩ hc hd
theorem bO.aef {X:Nat->Prop} {φ:cX} {w w':World} {H:Heap} (h:bO X φ w H) (hw:w'.heap=w.heap.push (.map #[] 0))
  (ho:w'.os=w.os) (ht:w'.tape=w.tape) (hp:w'.output=w.output) (hd:w.drawn<=w'.drawn) :
  bO X (φ++[some (w.heap.size,0)]) w' (H++[some []])/\eT φ w (φ++[some (w.heap.size,0)]) w':=
 h.X0 (arr:=#[]) (.inr ⟨#[],0,rfl,rfl,by simp⟩) hw ho ht hp ⟨aG _,fun _=>rfl⟩ (fun i c hi=>by simp at hi) hd

theorem bO.store {X:Nat->Prop} {φ:cX} {w w':World} {H:Heap} (h:bO X φ w H) {b g sz:Nat} {arr arr':Array Value} {e:TypeId} {cs':List AV}
  (jT:φ[b]?=some (some (g,sz))) (hg:w.heap[g]?=some (.cells arr e (0,0))) (mO:arr.size+1=sz) (hs:arr'.size=arr.size) (hw:w'=w.setRow g arr') (hX:¬X g)
  (hl:cs'.length<=arr'.size) (hc:∀(i:Nat) (c:AV),cs'[i]?=some c->∃u,arr'[i]?=some u/\bD (Rd X φ w) φ c u) :
  bO X φ w' (H.set b (some cs'))/\eT φ w φ w':=by
 subst hw;have a:eT φ w φ (w.setRow g arr'):=⟨rfl,rfl,rfl,aG _,by simp,fun k _ ho=>⟨setRow_other w g k _ (fun e=>ho ⟨b,sz,e▸jT⟩),ho⟩,.refl _⟩;refine⟨⟨by simp[h.len],fun k hk=>by simpa using h.FK k hk,fun c ds hb=>?_,fun c hb=>?_,h.inj⟩,a⟩
 ·rw[aQ] at hb;split at hb
  ·rename_i BU;subst BU;split at hb
   ·simp at hb;subst hb;refine⟨g,sz,arr',_,jT,setRow_heap w g arr arr' e _ hg,.inl ⟨e,rfl,by omega⟩,⟨by omega,fun z=>by omega⟩,hX,fun i c hi=>?_⟩;obtain⟨u,hu,r⟩:=hc i c hi;exact⟨u,hu,a.rep r⟩
   ·simp at hb
  ·rename_i BU;obtain⟨g',o0,ar,e',h1,h2,h3,h4,h5,h6⟩:=h.live c ds hb;refine⟨g',o0,ar,e',h1,?_,h3,h4,h5,fun i c hi=>?_⟩
   ·rw[setRow_other w g g' _ (fun eq=>BU (h.inj b c g sz o0 jT (eq▸h1)))]; exact h2
   ·obtain⟨u,hu,r⟩:=h6 i c hi;exact⟨u,hu,a.rep r⟩
 ·rw[aQ] at hb;split at hb
  ·split at hb<;>simp at hb
  ·exact h.dead c hb

theorem bO.UK {X:Nat->Prop} {φ:cX} {w w':World} {H:Heap} (h:bO X φ w H) {b g:Nat} {es':Array MapEntry} {clk':Nat} {cs':List AV}
  (jT:φ[b]?=some (some (g,0))) (hw1:w'.heap[g]?=some (.map es' clk')) (hw2:∀k,k≠g->w'.heap[k]?=w.heap[k]?) (mO:w'.heap.size=w.heap.size)
  (ho:w'.os=w.os) (ht:w'.tape=w.tape) (hp:w'.output=w.output) (hd:w.drawn<=w'.drawn) (hX:¬X g)
  (hl:cs'.length=es'.size) (hc:∀(i:Nat) (c:AV),cs'[i]?=some c->∃u,(es'.map fun e=>Value.tuple #[e.key,e.val])[i]?=some u/\bD (Rd X φ w) φ c u) :
  bO X φ w' (H.set b (some cs'))/\eT φ w φ w':=by
 have a:eT φ w φ w':=⟨ho,ht,hp,hd,by omega,fun k _ hk=>⟨hw2 k (fun e=>hk ⟨b,0,e▸jT⟩),hk⟩,.refl _⟩;refine⟨⟨by simp[h.len],fun k hk=>by rw[mO]; exact h.FK k hk,fun c ds hb=>?_,fun c hb=>?_,h.inj⟩,a⟩
 ·rw[aQ] at hb;split at hb
  ·rename_i BU;subst BU;split at hb
   ·simp at hb;subst hb;refine⟨g,0,_,_,jT,hw1,.inr ⟨es',clk',rfl,rfl,rfl⟩,⟨by simp[hl],fun z=>by simp[hl]⟩,hX,fun i c hi=>?_⟩;obtain⟨u,hu,r⟩:=hc i c hi;exact⟨u,hu,a.rep r⟩
   ·simp at hb
  ·rename_i BU;obtain⟨g',o0,ar,e',h1,h2,h3,h4,h5,h6⟩:=h.live c ds hb;refine⟨g',o0,ar,e',h1,?_,h3,h4,h5,fun i c hi=>?_⟩
   ·rw[hw2 g' (fun eq=>BU (h.inj b c g 0 o0 jT (eq▸h1)))]; exact h2
   ·obtain⟨u,hu,r⟩:=h6 i c hi;exact⟨u,hu,a.rep r⟩
 ·rw[aQ] at hb;split at hb
  ·split at hb<;>simp at hb
  ·exact h.dead c hb

theorem bO.Ww {X:Nat->Prop} {φ:cX} {w:World} {H:Heap} (h:bO X φ w H) (b:Nat):bO X (φ.set b none) w (H.set b none)/\eT φ w (φ.set b none) w:=by
 have a:eT φ w (φ.set b none) w:=by
  refine⟨rfl,rfl,rfl,aG _,aG _,fun g _ ho=>⟨rfl,fun hx=>ho (GK hx)⟩,⟨by simp,fun c p hc hp=>?_⟩⟩;rw[aQ] at hp;split at hp
  ·split at hp<;>simp at hp
  ·exact hp
 refine⟨⟨by simp[h.len],h.FK,fun c ds hb=>?_,fun c hb=>?_,fun c c' g sz o0 h1 h2=>?_⟩,a⟩
 ·rw[aQ] at hb;split at hb
  ·split at hb<;>simp at hb
  ·rename_i BU;obtain⟨g',o0,ar,e',h1,h2,h3,h4,h5,h6⟩:=h.live c ds hb;refine⟨g',o0,ar,e',?_,h2,h3,h4,h5,fun i c hi=>?_⟩
   ·rw[aQ,if_neg BU]; exact h1
   ·obtain⟨u,hu,r⟩:=h6 i c hi;exact⟨u,hu,a.rep r⟩
 ·rw[aQ] at hb ⊢;split at hb
  ·rename_i BU;rw[if_pos BU];split at hb
   ·rename_i bY;rw[if_pos (by rw[h.len]; exact bY)]
   ·simp at hb
  ·rename_i BU;rw[if_neg BU];exact h.dead c hb
 ·have un:∀(c g sz:Nat),(φ.set b none)[c]?=some (some (g,sz))->φ[c]?=some (some (g,sz)):=by
   intro c g sz hc;rw[aQ] at hc;split at hc
   ·split at hc<;>simp at hc
   ·exact hc
  exact h.inj c c' g sz o0 (un c g sz h1) (un c' g o0 h2)
def La:cX->List Nat->cX
 |φ,[]=>φ
 |φ,b::r=>La (φ.set b none) r
theorem bO.kill {X:Nat->Prop} {w:World}:∀(bs:List Nat) {φ:cX} {H:Heap},bO X φ w H->bO X (La φ bs) w (kill H bs)/\eT φ w (La φ bs) w
 |[],φ,H,h=>⟨h,.refl _ _⟩
 |b::r,φ,H,h=>by
   obtain⟨h1,a1⟩:=h.Ww b;obtain⟨h2,a2⟩:=bO.kill r h1;exact⟨h2,a1.trans a2⟩
theorem G1:∀(bs:List Nat) (φ:cX) (c:Nat) (p:Nat × Nat),(La φ bs)[c]?=some (some p)->φ[c]?=some (some p)/\c∉bs
 |[],φ,c,p,h=>⟨h,by simp⟩
 |b::r,φ,c,p,h=>by
   obtain⟨h1,h2⟩:=G1 r (φ.set b none) c p h;rw[aQ] at h1;split at h1
   ·split at h1<;>simp at h1
   ·rename_i BU;exact⟨h1,by simp[h2]; exact fun e=>BU e.symm⟩

theorem bO.move {X:Nat->Prop} {φ:cX} {w w':World} {H:Heap} (h:bO X φ w H) {b g sz:Nat} {arr arr':Array Value} {e:TypeId} {cs':List AV}
  (jT:φ[b]?=some (some (g,sz))) (hg:w.heap[g]?=some (.cells arr e (0,0))) (mO:arr.size+1=sz) (hs:arr'.size=arr.size) (hw:w'=w.setRow g arr') (hX:¬X g)
  (hl:cs'.length<=arr'.size) (hc:∀(i:Nat) (c:AV),cs'[i]?=some c->∃u,arr'[i]?=some u/\bD (Rd X φ w) φ c u) :
  bO X (φ.set b none++[some (g,sz)]) w' (H.set b none++[some cs'])/\eT φ w (φ.set b none++[some (g,sz)]) w':=by
 subst hw;have RH:b<φ.length:=aj jT
 have look:∀(c:Nat) (p:Nat × Nat),(φ.set b none++[some (g,sz)])[c]?=some (some p)->(c<φ.length/\c≠b/\φ[c]?=some (some p))\/(c=φ.length/\p=(g,sz)):=by
  intro c p hc;by_cases bY:c<φ.length
  ·rw[au (by simpa using bY),aQ] at hc;split at hc
   ·simp_all
   ·rename_i BU; exact .inl ⟨bY,fun e=>BU e.symm,hc⟩
  ·have iU:=aj hc;simp at iU;have LH:c=φ.length:=by omega
   subst LH;rw[aJ (by simp)] at hc;simp at hc;exact .inr ⟨rfl,hc.symm⟩
 have a:eT φ w (φ.set b none++[some (g,sz)]) (w.setRow g arr'):=by
  refine⟨rfl,rfl,rfl,aG _,by simp,fun k _ ho=>⟨setRow_other w g k _ (fun e=>ho ⟨b,sz,e▸jT⟩),?_⟩,⟨by simp,fun c p hc hp=>?_⟩⟩
  ·intro⟨c,s,hc⟩;rcases look c _ hc with⟨_,_,h1⟩|⟨_,h1⟩
   ·exact ho ⟨c,s,h1⟩
   ·simp at h1; exact ho ⟨b,sz,h1.1▸jT⟩
  ·rcases look c p hp with⟨_,_,h1⟩|⟨h1,_⟩
   ·exact h1
   ·omega
 refine⟨⟨by simp[h.len],fun k hk=>by simpa using h.FK k hk,fun c ds hb=>?_,fun c hb=>?_,fun c c' k s s' h1 h2=>?_⟩,a⟩
 ·by_cases bY:c<H.length
  ·rw[au (by simpa using bY),aQ] at hb;split at hb
   ·split at hb<;>simp at hb
   ·rename_i BU;obtain⟨g',o0,ar,e',h1,h2,h3,h4,h5,h6⟩:=h.live c ds hb;refine⟨g',o0,ar,e',?_,?_,h3,h4,h5,fun i c hi=>?_⟩
    ·rw[au (by simp[h.len,bY]),aQ,if_neg BU]; exact h1
    ·rw[setRow_other w g g' _ (fun eq=>BU (h.inj b c g sz o0 jT (eq▸h1)))]; exact h2
    ·obtain⟨u,hu,r⟩:=h6 i c hi;exact⟨u,hu,a.rep r⟩
  ·have iU:=aj hb;simp at iU;have LH:c=H.length:=by omega
   subst LH;rw[aJ (by simp)] at hb;simp at hb;subst hb;refine⟨g,sz,arr',_,?_,setRow_heap w g arr arr' e _ hg,.inl ⟨e,rfl,by omega⟩,⟨by omega,fun z=>by omega⟩,hX,fun i c hi=>?_⟩
   ·rw[aJ (by simp[h.len])]; simp[h.len]
   ·obtain⟨u,hu,r⟩:=hc i c hi;exact⟨u,hu,a.rep r⟩
 ·by_cases bY:c<H.length
  ·rw[au (by simpa using bY),aQ] at hb;rw[au (by simp[h.len,bY]),aQ];split at hb
   ·rename_i BU;rw[if_pos BU,if_pos (by omega)]
   ·rename_i BU;rw[if_neg BU]; exact h.dead c hb
  ·have iU:=aj hb;simp at iU;have LH:c=H.length:=by omega
   subst LH;rw[aJ (by simp)] at hb;simp at hb
 ·rcases look c _ h1 with⟨l1,n1,e1⟩|⟨l1,e1⟩<;>rcases look c' _ h2 with⟨l2,n2,e2⟩|⟨l2,e2⟩
  ·exact h.inj c c' k s s' e1 e2
  ·simp at e2; exact absurd (h.inj c b k s sz e1 (e2.1▸jT)) n1
  ·simp at e1; exact absurd (h.inj c' b k s' sz e2 (e1.1▸jT)) n2
  ·omega

theorem yM {n:Nat}:∀{H:Heap},yN n H=true->∀(b:Nat) (cs:List AV),H[b]?=some (some cs)->nO n cs=true
 |[],_,b,cs,hb=>by simp at hb
 |none::r,h,b,cs,hb=>by
   cases b with
   |zero=>simp at hb
   |succ b=>simp at hb; exact yM (H:=r) (by simpa[yN] using h) b cs hb
 |some ds::r,h,b,cs,hb=>by
   simp only[yN,ae] at h;cases b with
   |zero=>simp at hb; subst hb; exact h.1
   |succ b=>simp at hb; exact yM (H:=r) h.2 b cs hb
theorem DN {φ:cX} {n g:Nat} (h:bQ (φ.take n) g):bQ φ g:=by
 obtain⟨b,sz,hb⟩:=h;rw[bC] at hb;split at hb
 ·exact⟨b,sz,hb⟩
 ·simp at hb
theorem Pf {X:Nat->Prop} {φ:cX} {w:World} {n:Nat}:∀a u,Rd X φ w a u->Rd X (φ.take n) w a u:=fun _ _ ⟨h1,h2,h3⟩=>⟨h1,fun h=>h2 (DN h),h3⟩
theorem bO.take {X:Nat->Prop} {φ:cX} {w:World} {H:Heap} (h:bO X φ w H) {n:Nat} (hn:n<=H.length) (cW:yN n (H.take n)=true):bO X (φ.take n) w (H.take n):=by
 refine⟨by simp[h.len],h.FK,fun b cs hb=>?_,fun b hb=>?_,fun b b' g sz o0 h1 h2=>?_⟩
 ·have hr:=yM cW b cs hb;have bY:b<n:=by have:=aj hb; simp at this; omega
  rw[aL bY] at hb;obtain⟨g,sz,ar,e,h1,h2,h3,h4,h5,h6⟩:=h.live b cs hb;refine⟨g,sz,ar,e,by rw[aL bY]; exact h1,h2,h3,h4,h5,fun i c hi=>?_⟩;obtain⟨u,hu,r⟩:=h6 i c hi;exact⟨u,hu,(r.take (ob hr i c hi)).mono Pf (.refl _)⟩
 ·have bY:b<n:=by have:=aj hb; simp at this; omega
  rw[aL bY] at hb ⊢;exact h.dead b hb
 ·rw[bC] at h1 h2;split at h1<;>split at h2<;>first|exact h.inj b b' g sz o0 h1 h2|(first|simp at h1|simp at h2)
theorem eT.take {φ φ':cX} {w w':World} (h:eT φ w φ' w'):eT φ w (φ'.take φ.length) w':=
 ⟨h.os,h.tape,h.output,h.drawn,h.size,fun g hg ho=>⟨(h.keep g hg ho).1,fun hx=>(h.keep g hg ho).2 (DN hx)⟩,
  ⟨by rw[bg]; have:=h.QN.len; omega,fun b p hb hp=>h.QN.FQ b p hb (by rwa [aL hb] at hp)⟩⟩

/-! Freezing -/
theorem sZ {f:AV->Option (AV × List Nat)}:∀{xs ys:List AV} {bs:List Nat},AQ f xs=some (ys,bs) ->
  ys.length=xs.length/\∀ (i:Nat) (x:AV),xs[i]?=some x->∃y b,f x=some (y,b)/\ys[i]?=some y/\∀ c∈b,c∈bs
 |[],ys,bs,h=>by simp[AQ] at h; obtain⟨rfl,rfl⟩:=h; exact⟨rfl,fun i x hx=>by simp at hx⟩
 |x::r,ys,bs,h=>by
   simp only[AQ] at h;split at h
   ·rename_i y b zd bs' h1 h2;simp at h;obtain⟨rfl,rfl⟩:=h;obtain⟨hl,hm⟩:=sZ h2;refine⟨by simp[hl],fun i z hz=>?_⟩;cases i with
    |zero=>simp at hz; subst hz; exact⟨y,b,h1,by simp,fun c hc=>by simp[hc]⟩
    |succ i=>
      simp at hz;obtain⟨y',b',e1,e2,e3⟩:=hm i z hz;exact⟨y',b',e1,by simpa using e2,fun c hc=>by simp[e3 c hc]⟩
   ·cases h
theorem tc (l:List AV):(el l).cells=l:=by
 unfold el;split<;>first|rfl|skip
 rename_i x hx;cases x<;>first|rfl|(exact absurd rfl (hx _))
theorem EF (k:Nat):∀(n:Nat) (ys:List AV),n*k<=ys.length->(IU k n ys).length=n/\∀ (i:Nat) (x:AV),(IU k n ys)[i]?=some x->x.cells=(ys.drop (i*k)).take k/\i<n
 |0,ys,_=>⟨rfl,fun i x hx=>by simp[IU] at hx⟩
 |n+1,ys,h=>by
   have h':n*k<=(ys.drop k).length:=by rw[dR]; rw[cj] at h; omega
   obtain⟨hl,hm⟩:=EF k n (ys.drop k) h';refine⟨by simp[IU,hl],fun i x hx=>?_⟩;cases i with
   |zero=>simp[IU] at hx; subst hx; rw[tc]; simp
   |succ i=>
     simp[IU] at hx;obtain⟨e1,e2⟩:=hm i x hx;refine⟨?_,by omega⟩;rw[e1,List.drop_drop];congr 2;rw[cj]; omega
theorem gP {w:World} {g:Nat} {arr:Array Value} {e:TypeId} {fr:Nat × Nat} (h:w.heap[g]?=some (.cells arr e fr)) (o:Nat):w.cell? ⟨g,o,none⟩=arr[o]?:=cell_of_row w g o arr e fr h

theorem CG {X:Nat->Prop} {φ:cX} {w:World} {H:Heap} (h:bO X φ w H) {R:Addr->Value->Prop} (hR:∀a u,Rd X φ w a u->R a u) :
  ∀ (n:Nat) (x y:AV) (v:Value) (bs:List Nat),Bj H n x=some (y,bs) ->
   (∀b∈bs,∀g sz:Nat,φ[b]?=some (some (g,sz))->∀o u,w.cell? ⟨g,o,none⟩=some u->R ⟨g,o,none⟩ u)->bD (Rd X φ w) φ x v->bD R [] y v
 |0,_,_,_,_,hf,_,_=>by simp[Bj] at hf
 |n+1,x,y,v,bs,hf,hb,r=>by
   have ih:=CG h hR n
   have many:∀{cs ys:List AV} {bs':List Nat} {vs:Array Value},AQ (Bj H n) cs=some (ys,bs')->(∀b∈bs',b∈bs)->cs.length=vs.size ->
     (∀(i:Nat) (c:AV) (v:Value),cs[i]?=some c->vs[i]?=some v->bD (Rd X φ w) φ c v) ->
     ys.length=vs.size/\∀ (i:Nat) (c:AV) (v:Value),ys[i]?=some c->vs[i]?=some v->bD R [] c v:=by
    intro cs ys bs' vs hm Ba hl hr;obtain⟨TH,NP⟩:=sZ hm;refine⟨by omega,fun i c v hc hv=>?_⟩;obtain⟨x,hx⟩:=aS (l:=cs) (i:=i) (by have:=aj hc; omega);obtain⟨y,b,e1,e2,e3⟩:=NP i x hx;rw[e2] at hc;simp at hc;subst hc;exact ih x _ v b e1 (fun b' iU=>hb b' (Ba _ (e3 b' iU))) (hr i x v hx hv)
   cases x with
   |ptr b off=>
     simp only[Bj] at hf;split at hf
     ·rename_i cs dB;split at hf
      ·rename_i ys bs' hm;simp at hf;obtain⟨rfl,rfl⟩:=hf;obtain⟨TH,NP⟩:=sZ hm;cases r with
       |ptr _ _ _ a RH ha=>
         obtain⟨g,sz,arr,e,h1,h2,h3,h4,h5,h6⟩:=h.cat dB fun g sz hg=>(ha g sz hg).2;obtain⟨rfl,_⟩:=ha g sz h1;refine .de _ _ _ (fun j=>arr[off+j]?.getD undef) (fun j c hc=>?_) (fun j c hc=>?_)
         ·obtain⟨x,hx⟩:=aS (l:=cs.drop off) (i:=j) (by have:=aj hc; omega);rw[aO] at hx;obtain⟨u,hu,_⟩:=h6 _ _ hx;rw[Addr.iq];refine hb b (by simp) g sz h1 _ _ ?_;rw[gP h2,hu]; simp
         ·obtain⟨x,hx⟩:=aS (l:=cs.drop off) (i:=j) (by have:=aj hc; omega);obtain⟨y,b',e1,e2,e3⟩:=NP j x hx;rw[e2] at hc;simp at hc;subst hc;rw[aO] at hx;obtain⟨u,hu,r⟩:=h6 _ _ hx;refine ih x _ _ b' e1 (fun c hc=>hb c (by simp[e3 c hc])) ?_;rw[hu]; exact r
      ·cases hf
     ·cases hf
   |sl k b off len=>
     simp only[Bj] at hf;split at hf
     ·rename_i cs dB;split at hf
      ·rename_i oS;split at hf
       ·rename_i ys bs' hm;simp at hf;obtain⟨rfl,rfl⟩:=hf;obtain⟨TH,NP⟩:=sZ hm;have FG:ys.length=len*k:=by rw[TH,bg,dR]; omega
        obtain⟨gl,gm⟩:=EF k len ys (by omega);cases r with
        |sl _ _ _ _ _ a cap RH hc ha=>
          obtain⟨g,sz,arr,e,h1,h2,h3,h4,h5,h6⟩:=h.cat dB fun g sz hg=>by have:=(ha g sz hg).2; omega
          obtain⟨LK,iO⟩:=ha g sz h1;by_cases ED:0<cap
          case neg=>
           have LA:len=0:=by omega
           subst LA;refine .uU _ _ _ _ _ _ (fun _ _=>undef) gl.symm hc (fun x hx=>?_) (fun i j x c hx hc=>?_) (fun i j x c hx hc=>?_)
           all_goals simp[IU] at hx
          obtain rfl:=LK ED
          have key:∀(i j:Nat) (x c:AV),(IU k len ys)[i]?=some x->x.cells[j]?=some c->i*k+j<len*k/\j<k/\ys[i*k+j]?=some c:=by
           intro i j x c hx hc;obtain⟨e1,e2⟩:=gm i x hx;rw[e1,bC] at hc;split at hc
           ·rename_i hj;rw[aO] at hc;have:=aj hc;exact⟨by omega,hj,hc⟩
           ·cases hc
          refine .uU _ _ _ _ _ _ (fun i j=>arr[off+(i*k+j)]?.getD undef) gl.symm hc (fun x hx=>?_) (fun i j x c hx hc=>?_) (fun i j x c hx hc=>?_)
          ·obtain⟨i,hi⟩:=bt hx;obtain⟨e1,e2⟩:=gm i x hi;rw[e1,bg,dR,FG];have:i*k+k<=len*k:=by rw[<-Nat.succ_mul]; exact bK _ e2
           omega
          ·obtain⟨k1,k2,k3⟩:=key i j x c hx hc;obtain⟨z,hz⟩:=aS (l:=(cs.drop off).take (len*k)) (i:=i*k+j) (by have:=aj k3; omega);rw[aL k1,aO] at hz;obtain⟨u,hu,_⟩:=h6 _ _ hz;rw[Addr.iq];refine hb b (by simp) g sz h1 _ _ ?_;rw[gP h2,hu]; simp
          ·obtain⟨k1,k2,k3⟩:=key i j x c hx hc;obtain⟨z,hz⟩:=aS (l:=(cs.drop off).take (len*k)) (i:=i*k+j) (by have:=aj k3; omega);obtain⟨y,b',e1,e2,e3⟩:=NP _ z hz;rw[e2] at k3;simp at k3;subst k3;rw[aL k1,aO] at hz;obtain⟨u,hu,r⟩:=h6 _ _ hz;refine ih z _ _ b' e1 (fun c hc=>hb c (by simp[e3 c hc])) ?_;rw[hu]; exact r
       ·cases hf
      ·cases hf
     ·cases hf
   |agg cs=>
     simp only[Bj] at hf;split at hf
     ·rename_i ys bs' hm;simp at hf;obtain⟨rfl,rfl⟩:=hf;cases r with
      |agg _ _ vs hl hr=>
        obtain⟨l1,r1⟩:=many hm (fun _ h=>h) hl hr;exact .agg _ _ _ l1 r1
     ·cases hf
   |dA cs=>
     simp only[Bj] at hf;split at hf
     ·rename_i ys bs' hm;simp at hf;obtain⟨rfl,rfl⟩:=hf;cases r with
      |dA _ _ vs hl hr=>
        obtain⟨l1,r1⟩:=many hm (fun _ h=>h) hl hr;exact .dA _ _ _ l1 r1
     ·cases hf
   |func f as cs=>
     simp only[Bj] at hf;split at hf
     ·rename_i ys bs1 zs bs2 hm0 hm1 Yi;simp at hf;obtain⟨rfl,rfl⟩:=hf;cases r with
      |func _ _ _ va _ vb hy yL yK ha iU=>
        obtain⟨l1,r1⟩:=many hm1 (fun _ h=>by simp[h]) yL ha;obtain⟨l2,r2⟩:=many Yi (fun _ h=>by simp[h]) yK iU;exact .func _ _ _ _ _ _ hy l1 l2 r1 r2
      |yw=>cases hm0
     ·cases hf
   |_=>
     simp only[Bj,af,aA] at hf;obtain⟨rfl,rfl⟩:=hf;exact (r.dx rfl []).mono hR (.refl _)
end Go.Am

/- The check that ties compact operations to the operations of the dump. -/
namespace Go.Am

def EY:Value->AV->Bool
 |.bool a,.bool b=>a == b
 |.int k n,.int k' m=>decide (k=k')&&decide (n=m)
 |.slice none 0 0,.di=>true
 |.pointer none,.fg=>true
 |.nilFunc,.fj=>true
 |.string a,.str b=>decide (a=b)
 |.tuple vs,.undef=>vs.isEmpty
 |_,_=>false
def qU:List Value->List AV->Bool
 |[],[]=>true
 |v::r,x::s=>EY v x&&qU r s
 |_,_=>false
def chkV:Value->AV->Bool
 |.agg cs,.agg ds=>qU cs.toList ds
 |v,x=>EY v x
def cH:Operand->E->Bool
 |.tmp t,.t i=>decide (t=i)
 |.const v,.k x=>chkV v x
 |.func f,.k (.func (.func g) [] [])=>decide (f=g)
 |.global g,.g i=>decide (g=i)
 |_,_=>false
def iy:List Operand->List E->Bool
 |[],[]=>true
 |x::r,y::s=>cH x y&&iy r s
 |_,_=>false
def qY:Option Operand->Option E->Bool
 |none,none=>true
 |some x,some y=>cH x y
 |_,_=>false
def qV (place:Nat->Option (Nat × Nat)):List (Nat × Operand)->List (Nat × Nat × E)->Bool
 |[],[]=>true
 |(i,x)::r,(off,sz,y)::s=>decide (place i=some (off,sz))&&cH x y&&qV place r s
 |_,_=>false

def kF (P:Program) (t:TypeId):Option (Option Nat):=
 match P.underlying t with
 |some (.struct _)|some (.array _ _)=>match P.info? t with
   |some i=>some (some i.size)
   |none=>none
 |some _=>some none
 |none=>none
def nd (P:Program) (t:TypeId) (k:Nat):Bool:=
 match P.info? t with
 |some i=>decide (i.size=k)
 |none=>false
def pf (P:Program) (t:TypeId) (zs:List AV):Bool:=
 match P.info? t with
 |some i=>match i.zero with
   |some z=>qU z.cells.toList zs&&bm zs
   |none=>false
 |none=>false
def ik (P:Program) (t:TypeId) (k:Nat):Bool:=
 match P.underlying t with
 |some (.slice e)=>match P.info? e with
   |some i=>decide (i.size=k)&&decide (0<k)&&decide (i.bytes<=1024)&&(match i.zero with
     |some z=>decide (z.cells.size=k)
     |none=>false)
   |none=>false
 |_=>false
def gN (P:Program) (t:TypeId) (zs:List AV):Bool:=
 match P.underlying t with
 |some (.slice e)=>pf P e zs
 |_=>false
def rq (P:Program) (fs:Array Field) (i:Nat):Option (Nat × Nat):=
 match fs[i]? with
 |some f=>match P.info? f.type with
   |some j=>some (f.offset,j.size)
   |none=>none
 |none=>none
def sa (P:Program):Nat->List Field->List Bool->Bool
 |_,[],[]=>true
 | o, f :: r, b :: s => decide (f.offset = o) && decide (f.name ≠ "_") && (match P.underlying f.type with
   |some (.int _)=>b
   |some .bool=>!b
   |_=>false)&&sa P (o+1) r s
 |_,_,_=>false
def E4 (P:Program) (t:TypeId):Et->Bool
 |.bool=>match P.underlying t with
   |some .bool=>true
   |_=>false
 |.Nz=>match P.underlying t with
   |some (.slice _)=>true
   |_=>false
 |.DY=>match P.underlying t with
   |some (.pointer _)=>true
   |_=>false
 |.Zj=>match P.underlying t with
   |some (.func _ _ _)=>true
   |_=>false
 |.str l=>match P.underlying t with
   |some (.struct fs)=>!P.stoodInHeld t&&!P.eqGuardType P.depth t&&sa P 0 fs.toList l
   |_=>false
def HQ (P:Program) (t:TypeId) (z:AV):Bool:=
 match P.info? t with
 |some i=>match i.zero with
   |some v=>EY v z
   |none=>false
 |none=>false
def qX (P:Program) (t:TypeId):Kt->Bool
 |.Wv k=>match P.underlying t with
   |some (.int k')=>decide (k=k')
   |_=>false
 |.yE=>match P.underlying t with
   |some .string=>true
   |_=>false
 |.kst l=>match P.underlying t with
   |some (.struct fs)=>!P.stoodInHeld t&&!P.eqGuardType P.depth t&&sa P 0 fs.toList l
   |_=>false
def isSlice (P:Program) (t:TypeId):Bool:=
 match P.underlying t with
 |some (.slice _)=>true
 |_=>false

def eqOp:BinOp->Bool->Bool
 |.eql,ng=>!ng
 |.neq,ng=>ng
 |_,_=>false
def cG (P:Program):Op->Kd->Bool
 |.move x,.mv y=>cH x y
 |.assign x,.mv y=>cH x y
 |.pick c a b,.pick c' a' b'=>cH c c'&&cH a a'&&cH b b'
 |.alloc t,.new zs=>pf P t zs
 |.box _ x,.box y=>cH x y
 |.build t ps,.build zs qs=>pf P t zs&&(match P.underlying t with
   |some (.struct fs)=>(fs.toList.all fun f=>(P.info? f.type).isSome)&&qV (rq P fs) ps.toList qs
   |some (.array _ e)=>match P.info? e with
     |some i=>qV (fun j=>some (j*i.size,i.size)) ps.toList qs
     |none=>false
   |_=>false)
 |.buildSlice t n ps,.eL k m zs qs=>decide (n=m)&&ik P t k&&gN P t zs&&decide (n*k<=16777216)&&qV (fun j=>some (j*k,k)) ps.toList qs
 |.load t a,.ld ag y=>decide (kF P t=some ag)&&cH a y
 |.store t a v,.st k b y=>nd P t k&&cH a b&&cH v y
 |.nilCheck x,.mA y=>cH x y
 |.binOp op _ x y _,.bin op' x' y'=>decide (op=op')&&cH x x'&&cH y y'
 |.binOp op t x y _,.eq ng et x' y'=>eqOp op ng&&E4 P t et&&cH x x'&&cH y y'
 |.unOp op _ x,.un op' y=>decide (op=op')&&cH x y
 |.convert s d x,.Jw k y=>(P.underlying s).isSome&&(match P.underlying d with
   |some (.int k')=>decide (k=k')
   |_=>false)&&cH x y
 |.makeFunc fn as bs,.KJ fn' cs ds=>decide (fn=fn')&&iy as.toList cs&&iy bs.toList ds
 |.makeSlice t l c,.Jq k zs l' c'=>ik P t k&&gN P t zs&&cH l l'&&cH c c'
 |.slice t x lo hi none,.FC k y lo' w7=>ik P t k&&cH x y&&qY lo lo'&&qY hi w7
 |.fieldAddr s x f,.Aa off y=>(match P.underlying s with
   |some (.struct fs)=>match fs[f]? with
     |some fd=>decide (fd.offset=off)&&(match P.info? fd.type with
       |some i=>decide (i.size≠0)
       |none=>false)
     |none=>false
   |_=>false)&&cH x y
 |.field s x f,.TR off ag y=>(match P.underlying s with
   |some (.struct fs)=>match fs[f]? with
     |some fd=>decide (fd.offset=off)&&decide (kF P fd.type=some ag)
     |none=>false
   |_=>false)&&cH x y
 |.indexAddr t x i,.tH k y j=>ik P t k&&cH x y&&cH i j
 |.indexAddr t x i,.Ci n k y j=>(match P.underlying t with
   |some (.array n' e)=>decide (n=n')&&nd P e k
   |_=>false)&&cH x y&&cH i j
 |.index t x i,.ix n k ag y j=>(match P.underlying t with
   |some (.array n' e)=>decide (n=n')&&nd P e k&&decide (kF P e=some ag)
   |_=>false)&&cH x y&&cH i j
 |.index t (.const (.string s)) i,.Ty tab j=>(match P.underlying t with
   |some .string=>true
   |_=>false)&&decide (s.data.toList.map (·.toNat)=tab)&&cH i j
 |.call { callee:=.builtin .clear,args,argTypes },.RZ k zs x=>(match args.toList,argTypes.toList with
   |[x'],[t]=>ik P t k&&gN P t zs&&cH x' x
   |_,_=>false)
 |.extract x i,.ext j y=>decide (i=j)&&cH x y
 |.call { callee:=.value (.func f),args,argTypes:=_ },.call g xs=>decide (f=g)&&iy args.toList xs
 |.call { callee:=.value x,args,argTypes:=_ },.iR y xs=>cH x y&&iy args.toList xs
 |.call { callee:=.builtin .len,args,argTypes },.len y=>(match args.toList,argTypes.toList with
   |[x],[t]=>isSlice P t&&cH x y
   |_,_=>false)
 |.call { callee:=.builtin .append,args,argTypes },.app k x y=>(match args.toList,argTypes.toList with
   |[x',y'],[t,t']=>decide (t=t')&&ik P t k&&cH x' x&&cH y' y
   |_,_=>false)
 |.call { callee:=.builtin .min,args,argTypes:=_ },.min xs=>iy args.toList xs
 |.call { callee:=.builtin .max,args,argTypes:=_ },.max xs=>iy args.toList xs
 |.slice t x none hi none,.F9 n y w7=>(match P.underlying t with
   |some (.array n' e)=>decide (n=n')&&nd P e 1
   |_=>false)&&(cH x y&&qY hi w7)
 |.call { callee:=.builtin .copy,args,argTypes },.copy k x y=>(match args.toList,argTypes.toList with
   |[x',y'],[t,_]=>ik P t k&&cH x' x&&cH y' y
   |_,_=>false)
 |.makeMap _ none,.AO=>true
 |.lookup t x i ok,.xz kt ok' z y k=>decide (ok=ok')&&(match P.underlying t with
   |some (.map key el)=>qX P key kt&&HQ P el z
   |_=>false)&&cH x y&&cH i k
 |.mapUpdate t m i v,.yu kt y k u=>(match P.underlying t with
   |some (.map key _)=>qX P key kt
   |_=>false)&&cH m y&&cH i k&&cH v u
 |_,.bad=>true
 |_,_=>false

def I9 (P:Program) (N:Nat) (ops:Array Oper) (o:Oper) (q:O):Bool:=
 decide (o.dst=q.dst)&&(match q.dst with
  |some d=>decide (d<N)
  |none=>true)&&(match o.guard,q.guard with
  |none,none=>true
  |some (j,want),some (g,aaZ)=>decide ((ops[j]?).bind (·.dst)=some g)&&decide (want=aaZ)
  |_,_=>false)&&cG P o.op q.kd
def ab3 (P:Program) (N:Nat) (ops:Array Oper):List Oper->List O->Bool
 |[],[]=>true
 |o::r,q::s=>I9 P N ops o q&&ab3 P N ops r s
 |_,_=>false
def iW (x y:O):Bool:=
 (match x.dst with
  |some d=>!mem d y.reads&&decide (y.dst≠some d)
  |none=>true) &&
 (match y.dst with
  |some d=>!mem d x.reads
  |none=>true)
def jF (i j:Nat):List (Nat × Nat)->Bool
 |[]=>false
 |p::r=>(decide (p.1=i)&&decide (p.2=j))||jF i j r
def direct (y:Oper):List Nat:=(y.after.toList.filter fun e=>Region.binds .any e).map (·.on)
def dedup:List Nat->List Nat
 |[]=>[]
 |x::r=>if mem x (dedup r) then dedup r else x::dedup r
def Fk (Aj:List (List Nat)) (y:Oper):List Nat:=dedup (direct y++(dedup (direct y)).flatMap fun i=>Aj.getD i [])
def aaH (un:List (Nat × Nat)) (i j:Nat) (x:O) (ys:List Nat) (q:O):Bool:=mem i ys||(iW x q&&(x.kd.pure||q.kd.pure||jF i j un))
def Hy (un:List (Nat × Nat)) (j:Nat) (ys:List Nat) (q:O):Nat->List O->Bool
 |_,[]=>true
 |i,x::r=>aaH un i j x ys q&&Hy un j ys q (i+1) r
def Mi (un:List (Nat × Nat)) (Aj:List (List Nat)) (seen:List O):List Oper->List O->Bool
 |y::r,q::s=>((direct y).all fun i=>decide (i<seen.length))&&Hy un seen.length (Fk Aj y) q 0 seen&&Mi un (Aj++[Fk Aj y]) (seen++[q]) r s
 |_,_=>true
def chk (P:Program) (N:Nat):Code->C->Bool
 |.skip,.skip=>true
 |.ret,.ret=>true
 |.exit i,.exit j=>decide (i=j)
 |.region _ ops d,.rW os dr un _=>decide (d=dr)&&ab3 P N ops ops.toList os&&(!dr||Mi un [] [] ops.toList os)
 |.seq a b,.seq x y=>chk P N a x&&chk P N b y
 |.cond c a b,.cond c' x y=>cH c c'&&chk P N a x&&chk P N b y
 |.block i b,.aN j x=>decide (i=j)&&chk P N b x
 |.loop b,.loop x=>chk P N b x
 |.label _,.skip=>true
 |.scope b,.seq .skip x=>chk P N b x
 |_,_=>false
def chkR (P:Program):ResultVar->Rv->Bool
 |.tmp t,.t i=>decide (t=i)
 |.cell a t,.c i ag=>decide (a=i)&&decide (kF P t=some ag)
 |_,_=>false
def B7 (P:Program):List ResultVar->List Rv->Bool
 |[],[]=>true
 |x::r,y::s=>chkR P x y&&B7 P r s
 |_,_=>false
def chkF (P:Program) (fn:Func) (q:gR):Bool:=
 decide (fn.ntmps = q.n) && !(fn.name == "runtime.NumGoroutine") && B7 P fn.results.toList q.res && (match fn.body with
  |some c=>chk P q.n c q.body
  |none=>false)
structure Mw (P:Program) (c:dM):Prop where
 mixed:P.follows .mixedOrders=true
 fn:∀f m q,c.fn f=some (m,q)->∃fn,P.funcs[f]?=some fn/\chkF P fn q=true
end Go.Am

/- What one operation of the dump does is what the compact operation says: the operations that call nothing. -/
namespace Go.Am

def dD (c:dM) (X:Nat->Prop) (φ:cX) (w:World):Prop:=∀g,bD (Rd X φ w) [] (.de (c.gl g)) (.pointer (some ⟨g,0,none⟩))
theorem dD.nN {c:dM} {X:Nat->Prop} {φ φ':cX} {w w':World} (h:dD c X φ w) (a:eT φ w φ' w'):dD c X φ' w':=fun g=>(h g).mono a.rd (.refl _)

def Ok (P:Program) (X:Nat->Prop) (φ:cX) (w:World) (o:Oper) (a:Act) (v:AV) (H':Heap):Prop:=
 ∀ (K:Act->World->Prop) (Q:Exit->Act->World->Prop),(∀v' w' φ',bD (Rd X φ' w') φ' v v'->bO X φ' w' H'->eT φ w φ' w'->K (a.put o.dst v') w')->o.wp P a w K Q

section
variable {P:Program} {c:dM} {X:Nat->Prop} {φ:cX} {w:World} {env:Env} {H:Heap} {a:Act} {o:Oper}

theorem Ok.value {v:AV} {v':Value} {w':World} {H':Heap} {φ':cX} (hr:(execOp a.eval o).run P w=.ok (.value v') w') (r:bD (Rd X φ' w') φ' v v') (h:bO X φ' w' H') (k:eT φ w φ' w'):Ok P X φ w o a v H':=by
 intro K Q hK;unfold Oper.wp;rw[hr];exact hK v' w' φ' r h k
theorem Ok.quiet {v:AV} {v':Value} (hr:(execOp a.eval o).run P w=.ok (.value v') w) (r:bD (Rd X φ w) φ v v') (h:bO X φ w H):Ok P X φ w o a v H:=Ok.value hr r h (.refl _ _)
theorem Ok.skip {w':World} {H':Heap} {φ':cX} (hr:(execOp a.eval o).run P w=.ok .skip w') (h:bO X φ' w' H') (k:eT φ w φ' w'):Ok P X φ w o a .undef H':=by
 intro K Q hK;unfold Oper.wp;rw[hr];exact hK undef w' φ' (.undef _) h k

theorem Bp {R:Addr->Value->Prop} {ψ:cX} {v:Value} {x:AV} (h:EY v x=true):bD R ψ x v:=by
 unfold EY at h;split at h
 ·simp at h; subst h; exact .bool _ _
 ·simp at h; obtain⟨rfl,rfl⟩:=h; exact .int _ _ _
 ·exact .di _
 ·exact .fg _
 ·exact .fj _
 ·simp at h; subst h; exact .str _ _
 ·rename_i vs;have:vs=#[]:=by simpa using h
  subst this;exact .undef _
 ·cases h
theorem Bo {R:Addr->Value->Prop} {ψ:cX}:∀{vs:List Value} {xs:List AV},qU vs xs=true->xs.length=vs.length/\∀ (i:Nat) (x:AV) (v:Value),xs[i]?=some x->vs[i]?=some v->bD R ψ x v
 |[],[],_=>⟨rfl,fun i x v hx=>by simp at hx⟩
 |[],_::_,h=>by simp[qU] at h
 |_::_,[],h=>by simp[qU] at h
 |v::r,x::s,h=>by
   simp only[qU,ae] at h;obtain⟨hl,hm⟩:=Bo (R:=R) (ψ:=ψ) h.2;refine⟨by simp[hl],fun i y u hy hu=>?_⟩;cases i with
   |zero=>simp at hy hu; subst hy; subst hu; exact Bp h.1
   |succ i=>simp at hy hu; exact hm i y u hy hu
theorem XH {R:Addr->Value->Prop} {ψ:cX} {v:Value} {x:AV} (h:chkV v x=true):bD R ψ x v:=by
 unfold chkV at h;split at h
 ·rename_i cs ds;obtain⟨hl,hm⟩:=Bo (R:=R) (ψ:=ψ) h;exact .agg _ _ _ (by simpa using hl) fun i x v hx hv=>hm i x v hx (by simpa using hv)
 ·exact Bp h
theorem bL (he:oZ X φ w env a.tmps) (hg:dD c X φ w) {x:Operand} {y:E} (h:cH x y=true):bD (Rd X φ w) φ (ev c env y) (a.eval x):=by
 unfold cH at h;split at h
 ·simp at h; subst h; exact he _
 ·exact XH h
 ·simp at h; subst h;exact .func _ _ _ _ _ _ rfl rfl rfl (fun i c v hc=>by simp at hc) (fun i c v hc=>by simp at hc)
 ·simp at h; subst h; exact (hg _).dx rfl _
 ·cases h

def si (X:Nat->Prop) (φ:cX) (w:World) (xs:List AV) (vs:Array Value):Prop:=xs.length=vs.size/\∀ (i:Nat) (x:AV) (v:Value),xs[i]?=some x->vs[i]?=some v->bD (Rd X φ w) φ x v
theorem nH (he:oZ X φ w env a.tmps) (hg:dD c X φ w):∀{xs:List Operand} {ys:List E},iy xs ys=true ->
  (CH c env ys).length=xs.length/\∀ (i:Nat) (x:AV) (v:Value),(CH c env ys)[i]?=some x->(xs.map a.eval)[i]?=some v->bD (Rd X φ w) φ x v
 |[],[],_=>⟨rfl,fun i x v hx=>by simp[CH] at hx⟩
 |[],_::_,h=>by simp[iy] at h
 |_::_,[],h=>by simp[iy] at h
 |x::r,y::s,h=>by
   simp only[iy,ae] at h;obtain⟨hl,hm⟩:=nH he hg h.2;refine⟨by simp[CH,hl],fun i z v hz hv=>?_⟩;cases i with
   |zero=>simp[CH] at hz hv; subst hz; subst hv; exact bL he hg h.1
   |succ i=>simp[CH] at hz; simp at hv; exact hm i z v hz (by simpa using hv)

/-! Places -/
def Jy (X:Nat->Prop) (φ:cX) (w:World) (cs:List AV) (ad:Addr):Prop:=∀(j:Nat) (x:AV),cs[j]?=some x->∃u,w.cell? (ad.add j)=some u/\bD (Rd X φ w) φ x u
theorem bD.GR {R:Addr->Value->Prop} {x:AV} {v:Value} (h:bD R [] x v) (φ:cX):bD R φ x v:=h.mono (fun _ _ h=>h) ⟨Nat.zero_le _,fun b p hb=>by simp at hb⟩
theorem Jy.Q9 {cs:List AV} {v:Value} (h:bD (Rd X φ w) φ (.de cs) v):∃ad,v=.pointer (some ad)/\Jy X φ w cs ad:=by
 cases h with
 |de _ _ ad u hu h=>exact⟨ad,rfl,fun j x hx=>⟨u j,(hu j x hx).2.2,(h j x hx).GR φ⟩⟩
theorem Jy.Ny (hh:bO X φ w H) {b off:Nat} {cs:List AV} (hb:aN H b=some cs) {v:Value} (h:bD (Rd X φ w) φ (.ptr b off) v) :
  ∃ g sz arr e,v=.pointer (some ⟨g,off,none⟩)/\φ[b]?=some (some (g,sz))/\w.heap[g]?=some (.cells arr e (0,0))/\arr.size+1=sz/\cs.length<=arr.size/\¬ X g /\
   (∀(i:Nat) (c:AV),cs[i]?=some c->∃u,arr[i]?=some u/\bD (Rd X φ w) φ c u)/\Jy X φ w (cs.drop off) ⟨g,off,none⟩:=by
 cases h with
 |ptr _ _ _ ad RH hp=>
   obtain⟨g,sz,arr,e,h1,h2,h3,h4,h5,h6⟩:=hh.cat hb fun g sz hg=>(hp g sz hg).2;obtain⟨rfl,_⟩:=hp g sz h1;refine⟨g,sz,arr,e,rfl,h1,h2,h3,h4,h5,h6,fun j x hx=>?_⟩;rw[aO] at hx;obtain⟨u,hu,r⟩:=h6 _ _ hx;exact⟨u,by rw[Addr.iq,gP h2]; exact hu,r⟩
theorem Jy.values {cs:List AV} {ad:Addr} (h:Jy X φ w cs ad):∀n,n<=cs.length->∃vs:List Value,vs.length=n/\(∀(j:Nat) (v:Value),vs[j]?=some v->w.cell? (ad.add j)=some v) /\
  ∀ (j:Nat) (x:AV) (v:Value),(cs.take n)[j]?=some x->vs[j]?=some v->bD (Rd X φ w) φ x v
 |0,_=>⟨[],rfl,fun j v hv=>by simp at hv,fun j x v hx=>by simp at hx⟩
 |n+1,hn=>by
   obtain⟨vs,hl,h1,h2⟩:=Jy.values h n (by omega);obtain⟨x,hx⟩:=aS (l:=cs) (i:=n) (by omega);obtain⟨u,hu,r⟩:=h n x hx;refine⟨vs++[u],by simp[hl],fun j v hv=>?_,fun j y v hy hv=>?_⟩
   ·by_cases hj:j<vs.length
    ·rw[au hj] at hv; exact h1 j v hv
    ·have bY:=aj hv;simp at bY;have hje:j=n:=by omega
     subst hje;rw[aJ (by omega)] at hv;simp[hl] at hv;subst hv;exact hu
   ·by_cases hj:j<vs.length
    ·rw[au hj] at hv;rw[aL (by omega)] at hy;exact h2 j y v (by rw[aL (by omega)]; exact hy) hv
    ·have bY:=aj hv;simp at bY;have hje:j=n:=by omega
     subst hje;rw[aJ (by omega)] at hv;simp[hl] at hv;subst hv;rw[aL (by omega),hx] at hy;simp at hy;subst hy;exact r

theorem vd {t:TypeId} {i:TypeInfo} (h:P.info? t=some i):(typeInfo t).run P w=.ok i w:=by simp[typeInfo,h]
theorem ia {t:TypeId} {i:TypeInfo} (h:P.info? t=some i):(sizeOf t).run P w=.ok i.size w:=by simp[sizeOf,vd h]
theorem qB {t:TypeId} {i:TypeInfo} {z:Value} (h:P.info? t=some i) (hz:i.zero=some z):(zeroValue t).run P w=.ok z w:=by simp[zeroValue,vd h,hz]

theorem Fo {t:TypeId} {k:Nat} (h:kF P t=some (some k)):∃i,P.info? t=some i/\i.size=k/\(isAgg t).run P w=.ok true w:=by
 unfold kF at h;split at h
 ·rename_i fs hu;split at h
  ·rename_i i hi;exact⟨i,hi,by simpa using h,by simp[isAgg,run_underlying hu]⟩
  ·cases h
 ·rename_i n e hu;split at h
  ·rename_i i hi;exact⟨i,hi,by simpa using h,by simp[isAgg,run_underlying hu]⟩
  ·cases h
 ·simp at h
 ·cases h
theorem nM {t:TypeId} (h:kF P t=some none):(isAgg t).run P w=.ok false w:=by
 unfold kF at h;split at h
 ·split at h<;>simp at h
 ·split at h<;>simp at h
 ·rename_i d h1 h2 hu;simp only[isAgg,Sem.run_bind,run_underlying hu,Result.andThen_ok];rfl
 ·cases h
theorem Iv {t:TypeId} {ag:Option Nat} (ha:kF P t=some ag) {cs:List AV} {x:AV} (hx:AA ag cs=some x) {ad:Addr} (hp:Jy X φ w cs ad) :
  ∃ v,(loadVar t ad).run P w=.ok v w/\bD (Rd X φ w) φ x v:=by
 cases ag with
 |some k=>
   obtain⟨i,hi,hk,zX⟩:=Fo (w:=w) ha;simp only[AA] at hx;split at hx
   ·rename_i hle;simp at hx;subst hx;obtain⟨vs,hl,h1,h2⟩:=hp.values k hle;have hlc:=run_loadCells_list (P:=P) w ad vs h1;refine⟨.agg vs.toArray,?_,.agg _ _ _ (by simp[hl]; omega) fun i c v hc hv=>h2 i c v hc (by simpa using hv)⟩;simp only[loadVar,Sem.run_bind,zX,Result.andThen_ok,if_true,ia hi,hk];rw[<-hl,hlc];simp
   ·cases hx
 |none=>
   have zX:=nM (P:=P) (w:=w) ha;simp only[AA] at hx;cases cs with
   |nil=>simp at hx
   |cons y r=>
     simp at hx;subst hx;obtain⟨u,hu,r⟩:=hp 0 y rfl;rw[Addr.add_zero'] at hu;refine⟨u,?_,r⟩;simp only[loadVar,Sem.run_bind,zX,Result.andThen_ok,bk,if_false,run_load,hu]

theorem QT {t:TypeId} {ag:Option Nat} (ha:kF P t=some ag) {cs:List AV} {vs:Array Value} (hl:cs.length=vs.size)
  (hr:∀(i:Nat) (c:AV) (v:Value),cs[i]?=some c->vs[i]?=some v->bD (Rd X φ w) φ c v) {off:Nat} {x:AV} (hx:AA ag (cs.drop off)=some x) :
  ∃ v,(part t vs off).run P w=.ok v w/\bD (Rd X φ w) φ x v:=by
 cases ag with
 |some k=>
   obtain⟨i,hi,hk,zX⟩:=Fo (w:=w) ha;simp only[AA] at hx;split at hx
   ·rename_i hle;simp at hx;subst hx;rw[dR] at hle;refine⟨.agg (vs.extract off (off+k)),?_,.agg _ _ _ ?_ fun j c v hc hv=>?_⟩
    ·simp only[part,Sem.run_bind,zX,Result.andThen_ok,if_true,ia hi,hk,Sem.run_pure]
    ·simp only[bg,dR,Array.size_extract]; omega
    ·have hjk:j<k:=by have:=aj hc; simp only[bg] at this; omega
     rw[aL hjk,aO] at hc
     have hv':vs[off+j]?=some v:=by
      rw[Array.getElem?_extract] at hv;split at hv
      ·exact hv
      ·cases hv
     exact hr _ c v hc hv'
   ·cases hx
 |none=>
   have zX:=nM (P:=P) (w:=w) ha;simp only[AA,List.head?_drop] at hx;have bY:=aj hx;obtain⟨v,hv⟩:=bP (l:=vs) (i:=off) (by omega);exact⟨v,by simp only[part,Sem.run_bind,zX,Result.andThen_ok,bk,if_false,hv,Sem.run_pure],hr off x v hx hv⟩

theorem gq {k:IntKind} {n:Int} {v:Value} (h:bD (Rd X φ w) φ (.int k n) v):v=.int k n:=by cases h; rfl
theorem lZ {b:Bool} {v:Value} (h:bD (Rd X φ w) φ (.bool b) v):v=.bool b:=by cases h; rfl

theorem YJ {op:BinOp} {t:TypeId} {k k':IntKind} {x y:Int} {r:AV} (h:qg op (.int k x) (.int k' y)=some r) :
  ∃ v,(binOp op t (.int k x) (.int k' y)).run P w=.ok v w/\∀ R ψ,bD R ψ r v:=by
 cases op<;>simp only[qg,arith] at h
 case shl=>
  split at h
  ·cases h
  ·rename_i hn;simp at h; subst h;exact⟨_,by simp[binOp,Op.shift,hn],fun _ _=>.int _ _ _⟩
 case shr=>
  split at h
  ·cases h
  ·rename_i hn;simp at h; subst h;exact⟨_,by simp[binOp,Op.shift,hn],fun _ _=>.int _ _ _⟩
 all_goals
  split at h
  ·rename_i hk;subst hk
   first
    |(simp at h; subst h; first|exact⟨_,by simp[go_sem],fun _ _=>.int _ _ _⟩|exact⟨_,by simp[go_sem],fun _ _=>.bool _ _⟩)
    | (split at h
       ·cases h
       ·rename_i hn;simp at h; subst h;exact⟨_,by simp[go_sem,hn],fun _ _=>.int _ _ _⟩)
  ·cases h

theorem I4 {l:List Bool} {xs ys:List AV} {e:Bool} (h:xf (true::l) xs ys=some e) :
  ∃ k a r b s e',xs=.int k a::r/\ys=.int k b::s/\xf l r s=some e'/\e=(a == b&&e'):=by
 cases xs with
 |nil=>simp[xf] at h
 |cons x r=>
   cases ys with
   |nil=>cases x<;>simp[xf] at h
   |cons y s=>
     cases x<;>cases y<;>simp[xf] at h
     rename_i k a k' b;obtain⟨rfl,h⟩:=h;split at h
     ·rename_i e' he;simp at h;exact⟨k,a,r,b,s,e',rfl,rfl,he,h.symm⟩
     ·cases h
theorem EN {l:List Bool} {xs ys:List AV} {e:Bool} (h:xf (false::l) xs ys=some e) :
  ∃ a r b s e',xs=.bool a::r/\ys=.bool b::s/\xf l r s=some e'/\e=(a == b&&e'):=by
 cases xs with
 |nil=>simp[xf] at h
 |cons x r=>
   cases ys with
   |nil=>cases x<;>simp[xf] at h
   |cons y s=>
     cases x<;>cases y<;>simp[xf] at h
     rename_i a b;split at h
     ·rename_i e' he;simp at h;exact⟨a,r,b,s,e',rfl,rfl,he,h.symm⟩
     ·cases h
theorem tv (d:Nat):∀(fs:List Field) (l:List Bool) (off:Nat) (xs ys:List AV) (vx vy:Array Value) (e:Bool),sa P off fs l=true->xf l (xs.drop off) (ys.drop off)=some e ->
  xs.length=vx.size->ys.length=vy.size->(∀(i:Nat) (c:AV) (v:Value),xs[i]?=some c->vx[i]?=some v->bD (Rd X φ w) φ c v) ->
  (∀(i:Nat) (c:AV) (v:Value),ys[i]?=some c->vy[i]?=some v->bD (Rd X φ w) φ c v)->(Op.eqFields (d+1) vx vy fs).run P w=.ok e w
 |[],[],off,xs,ys,vx,vy,e,_,he,_,_,_,_=>by
   generalize xs.drop off=a at he;generalize ys.drop off=b at he;cases a<;>cases b<;>simp[xf] at he
   subst he;rfl
 |[],_::_,_,_,_,_,_,_,h,_,_,_,_,_=>by simp[sa] at h
 |_::_,[],_,_,_,_,_,_,h,_,_,_,_,_=>by simp[sa] at h
 |f::fs,b::l,off,xs,ys,vx,vy,e,h,he,Be,Bd,hx,hy=>by
   simp only[sa,ae,decide_eq_true_eq] at h;obtain⟨⟨⟨IF,zV⟩,CD⟩,G3⟩:=h;have ih:=fun e he=>tv d fs l (off+1) xs ys vx vy e G3 he Be Bd hx hy
   have cell:∀(zs:List AV) (vz:Array Value) (z:AV) (r:List AV),zs.length=vz.size->zs.drop off=z::r->(∃v,vz[off]?=some v)/\zs[off]?=some z/\zs.drop (off+1)=r:=by
    intro zs vz z r hl hd
    have h0:zs[off]?=some z:=by
     have h:=congrArg (·[0]?) hd;simp only[aO,JB,Cb] at h;exact h
    refine⟨bP (by have:=aj h0; omega),h0,?_⟩;rw[<-List.tail_drop,hd]; rfl
   split at CD
   ·rename_i k hu;subst CD;have zX:kF P f.type=some none:=by simp[kF,hu]
    have ZT:=nM (P:=P) (w:=w) zX;obtain⟨kx,a,r,b',s,e',ZZ,hdy,hee,rfl⟩:=I4 he;obtain⟨⟨vx0,WM⟩,yI,Yf⟩:=cell xs vx _ _ Be ZZ;obtain⟨⟨vy0,hvy⟩,hy0,hy1⟩:=cell ys vy _ _ Bd hdy;obtain rfl:=gq (hx off _ vx0 yI WM);obtain rfl:=gq (hy off _ vy0 hy0 hvy);have ih':=ih e' (by rw[Yf,hy1]; exact hee);simp only[Op.eqFields,zV,ne_eq,not_false_eq_true,if_true,part,Sem.run_bind,ZT,Result.andThen_ok,bk,if_false,IF,WM,hvy,Sem.run_pure,run_equalIn_int w d f.type kx k a b' hu];cases hab:(a == b')<;>simp[ih']
   ·rename_i hu;simp only[bn] at CD;subst CD;have zX:kF P f.type=some none:=by simp[kF,hu]
    have ZT:=nM (P:=P) (w:=w) zX;obtain⟨a,r,b',s,e',ZZ,hdy,hee,rfl⟩:=EN he;obtain⟨⟨vx0,WM⟩,yI,Yf⟩:=cell xs vx _ _ Be ZZ;obtain⟨⟨vy0,hvy⟩,hy0,hy1⟩:=cell ys vy _ _ Bd hdy;obtain rfl:=lZ (hx off _ vx0 yI WM);obtain rfl:=lZ (hy off _ vy0 hy0 hvy);have ih':=ih e' (by rw[Yf,hy1]; exact hee);simp only[Op.eqFields,zV,ne_eq,not_false_eq_true,if_true,part,Sem.run_bind,ZT,Result.andThen_ok,bk,if_false,IF,WM,hvy,Sem.run_pure,run_equalIn_bool w d f.type a b' hu];cases hab:(a == b')<;>simp[ih']
   ·cases CD
end
end Go.Am

/- What one operation of the dump does, continued: memory. -/
set_option linter.unusedSimpArgs false
namespace Go.Am
section
variable {P:Program} {c:dM} {X:Nat->Prop} {φ:cX} {w:World} {env:Env} {H:Heap} {a:Act} {o:Oper}

def Cs (X:Nat->Prop) (φ:cX) (w:World) (cs:List AV) (vs:List Value):Prop:=cs.length=vs.length/\∀ (i:Nat) (c:AV) (v:Value),cs[i]?=some c->vs[i]?=some v->bD (Rd X φ w) φ c v
theorem Cs.get {cs:List AV} {vs:List Value} (h:Cs X φ w cs vs) {i:Nat} {c:AV} (hc:cs[i]?=some c):∃u,vs[i]?=some u/\bD (Rd X φ w) φ c u:=by
 obtain⟨u,hu⟩:=aS (l:=vs) (i:=i) (h.1▸aj hc);exact⟨u,hu,h.2 i c u hc hu⟩
theorem Cs.append {cs ds:List AV} {vs us:List Value} (h:Cs X φ w cs vs) (k:Cs X φ w ds us):Cs X φ w (cs++ds) (vs++us):=by
 refine⟨by simp[h.1,k.1],fun i c v hc hv=>?_⟩;by_cases hi:i<cs.length
 ·rw[au hi] at hc;rw[au (h.1▸hi)] at hv;exact h.2 i c v hc hv
 ·rw[aJ (by omega)] at hc;rw[aJ (by have:=h.1; omega)] at hv;rw[h.1] at hc;exact k.2 _ c v hc hv
theorem Cs.take {cs:List AV} {vs:List Value} (h:Cs X φ w cs vs) (n:Nat):Cs X φ w (cs.take n) (vs.take n):=by
 refine⟨by simp[h.1],fun i c v hc hv=>?_⟩;have hi:i<n:=by have:=aj hc; simp at this; omega
 rw[aL hi] at hc hv;exact h.2 i c v hc hv
theorem Cs.drop {cs:List AV} {vs:List Value} (h:Cs X φ w cs vs) (n:Nat):Cs X φ w (cs.drop n) (vs.drop n):=by
 refine⟨by simp[h.1],fun i c v hc hv=>?_⟩;rw[aO] at hc hv;exact h.2 _ c v hc hv
theorem Cs.iX {cs ds:List AV} {vs us:List Value} (h:Cs X φ w cs vs) (k:Cs X φ w ds us) (off:Nat):Cs X φ w (iX cs off ds) (vs.take off++us++vs.drop (off+us.length)):=by
 unfold Am.iX;rw[<-k.1];exact ((h.take off).append k).append (h.drop _)
theorem bD.cs {x:AV} {v:Value} (h:bD (Rd X φ w) φ x v) (hs:bm x.cells=true):Cs X φ w x.cells v.cells.toList/\∀ u∈v.cells.toList,u.oneCell'=true:=by
 obtain⟨hl,hm⟩:=h.cells hs;refine⟨⟨by simpa using hl,fun i c u hc hu=>?_⟩,fun u hu=>?_⟩
 ·obtain⟨u',h1,h2,_⟩:=hm i c hc;simp at hu;rw[h1] at hu;simp at hu;subst hu;exact h2
 ·obtain⟨i,hi⟩:=bt hu;obtain⟨c,hc⟩:=aS (l:=x.cells) (i:=i) (by have:=aj hi; simp at this; omega);obtain⟨u',h1,_,h3⟩:=hm i c hc;simp at hi;rw[h1] at hi;simp at hi;subst hi;exact h3
theorem Cs.rD {cs:List AV} {vs:List Value} (h:Cs X φ w cs vs) (hl:bm cs=true):∀u∈vs,u.oneCell'=true:=by
 intro u hu;obtain⟨i,hi⟩:=bt hu;obtain⟨c,hc⟩:=aS (l:=cs) (i:=i) (by have:=aj hi; have:=h.1; omega);exact (h.2 i c u hc hi).rD (wg hl i c hc)
theorem sx {t:TypeId} {zs:List AV} (h:pf P t zs=true):∃i z,P.info? t=some i/\i.zero=some z/\Cs X φ w zs z.cells.toList/\bm zs=true:=by
 unfold pf at h;split at h
 ·rename_i i hi;split at h
  ·rename_i z hz;simp only[ae] at h;exact⟨i,z,hi,hz,Bo h.1,h.2⟩
  ·cases h
 ·cases h
theorem iw {t:TypeId} {k:Nat} (h:ik P t k=true):∃e i z,P.underlying t=some (.slice e)/\P.info? e=some i/\i.size=k/\0<k/\i.bytes<=1024/\i.zero=some z/\z.cells.size=k:=by
 unfold ik at h;split at h
 ·rename_i e hu;split at h
  ·rename_i i hi;simp only[ae,decide_eq_true_eq] at h;obtain⟨⟨⟨h1,h2⟩,h3⟩,h4⟩:=h;split at h4
   ·rename_i z hz;exact⟨e,i,z,hu,hi,h1,h2,h3,hz,by simpa using h4⟩
   ·cases h4
  ·cases h
 ·cases h

theorem tj (hh:bO X φ w H) {arr:Array Value} {e:TypeId} {cs:List AV} {w1:World} (hw:w1.heap=w.heap) (ho:w1.os=w.os) (ht:w1.tape=w.tape) (hp:w1.output=w.output)
  (hl:cs.length<=arr.size) (hc:∀(i:Nat) (c:AV),cs[i]?=some c->∃u,arr[i]?=some u/\bD (Rd X φ w) φ c u) (hd:w.drawn<=w1.drawn:=by first|exact aG _|exact Nat.le_succ _) :
  bO X (φ++[some (w.heap.size,arr.size+1)]) (w1.alloc (.cells arr e)) (H++[some cs])/\eT φ w (φ++[some (w.heap.size,arr.size+1)]) (w1.alloc (.cells arr e)):=
 hh.alloc (w':=w1.alloc (.cells arr e)) (e:=e) (by simp[World.alloc,hw]) ho ht hp hl hc hd
theorem Cs.at {cs:List AV} {vs:List Value} {arr:Array Value} (h:Cs X φ w cs vs) (hv:∀(i:Nat) (u:Value),vs[i]?=some u->arr[i]?=some u):∀(i:Nat) (c:AV),cs[i]?=some c->∃u,arr[i]?=some u/\bD (Rd X φ w) φ c u:=by
 intro i c hc;obtain⟨u,hu,r⟩:=h.get hc;exact⟨u,hv i u hu,r⟩
theorem Rf {R:Addr->Value->Prop} {n g sz:Nat} (hn:φ.length=n):bD R (φ++[some (g,sz+1)]) (.ptr n 0) (.pointer (some ⟨g,0,none⟩)):=by
 refine .ptr _ _ _ _ (by simp[hn]) fun g' o0 h=>?_;subst hn;simp at h;obtain⟨rfl,rfl⟩:=h;exact⟨rfl,by omega⟩
theorem Is {R:Addr->Value->Prop} {n g sz k len cap:Nat} (hn:φ.length=n) (hc:len<=cap) (hs:cap*k<=sz):bD R (φ++[some (g,sz+1)]) (.sl k n 0 len) (.slice (some ⟨g,0,none⟩) len cap):=by
 refine .sl _ _ _ _ _ _ _ (by simp[hn]) hc fun g' o0 h=>?_;subst hn;simp at h;obtain⟨rfl,rfl⟩:=h;exact⟨fun _=>rfl,by omega⟩
theorem Re {R:Addr->Value->Prop} {ψ:cX} {n g sz k len cap:Nat} (hn:ψ.length=n) (hc:len<=cap) (hs:cap*k<=sz):bD R (ψ++[some (g,sz+1)]) (.sl k n 0 len) (.slice (some ⟨g,0,none⟩) len cap):=Is hn hc hs

theorem Nu {t:TypeId} {zs:List AV} (eI:o.op=.alloc t) (hh:bO X φ w H) (hz:pf P t zs=true):Ok P X φ w o a (.ptr H.length 0) (H++[some zs]):=by
 obtain⟨i,z,hi,hz,dB,_⟩:=sx (X:=X) (φ:=φ) (w:=w) hz;obtain⟨h1,h2⟩:=tj hh (w1:=w) (arr:=z.cells) (e:=t) rfl rfl rfl rfl (by rw[dB.1]; simp) (dB.at (by simp));refine Ok.value ?_ (Rf hh.len) h1 h2;simp[execOp,eI,Instr.alloc,qB hi hz,newVar,newRow]
theorem adi {t:TypeId} {x:Operand} {v:AV} (eI:o.op=.box t x) (hh:bO X φ w H) (r:bD (Rd X φ w) φ v (a.eval x)) (hs:bm v.cells=true) :
  Ok P X φ w o a (.ptr H.length 0) (H++[some v.cells]):=by
 obtain⟨dB,_⟩:=r.cs hs;obtain⟨h1,h2⟩:=tj hh (w1:=w) (arr:=(a.eval x).cells) (e:=t) rfl rfl rfl rfl (by rw[dB.1]; simp) (dB.at (by simp));refine Ok.value ?_ (Rf hh.len) h1 h2;simp[execOp,eI,Instr.box,newVar,newRow]

theorem afn {t:TypeId} {x:Operand} {y:E} {ag:Option Nat} {v:AV} {H':Heap} {fl:Fp} {call:Nat->List AV->Heap->Option (AV × Heap)} (eI:o.op=.load t x) (hh:bO X φ w H) (r:bD (Rd X φ w) φ (ev c env y) (a.eval x))
  (ha:kF P t=some ag) (hs:fi c call env H (.ld ag y)=some (v,H',fl)):Ok P X φ w o a v H':=by
 have go:∀{cs:List AV} {ad:Addr},a.eval x=.pointer (some ad)->Jy X φ w cs ad->AA ag cs=some v->Ok P X φ w o a v H:=by
  intro cs ad hx hp hv;obtain⟨u,h1,h2⟩:=Iv ha hv hp;exact Ok.quiet (by simp[execOp,eI,hx,Instr.loadAt,Instr.sureAddr,h1]) h2 hh
 simp only[fi] at hs;split at hs
 ·rename_i cs hc;split at hs
  ·rename_i u hu;simp at hs;obtain⟨rfl,rfl,rfl⟩:=hs;rw[hc] at r;obtain⟨ad,h1,h2⟩:=Jy.Q9 r;exact go h1 h2 hu
  ·cases hs
 ·rename_i b off hc;split at hs
  ·rename_i cs hb;split at hs
   ·rename_i u hu;simp at hs;obtain⟨rfl,rfl,rfl⟩:=hs;rw[hc] at r;obtain⟨g,sz,arr,e,h1,_,_,_,_,_,_,h2⟩:=Jy.Ny hh hb r;exact go h1 h2 hu
   ·cases hs
  ·cases hs
 ·cases hs

theorem fO {cs vs:List AV} {off:Nat} (h:off+vs.length<=cs.length):(iX cs off vs).length=cs.length:=by
 unfold iX;simp only[bw,bg,dR];omega
theorem YD (l us:List Value) (off n i:Nat) (h:off+us.length<=n) (hn:n<=l.length) (hi:i<n) :
  (l.take off++us++l.drop (off+us.length))[i]?=((l.take n).take off++us++(l.take n).drop (off+us.length))[i]?:=by
 have e1:(l.take off).length=off:=by simp; omega
 have e2:((l.take n).take off).length=off:=by simp; omega
 by_cases h1:i<off
 ·rw[dQ,dQ,au (by omega),au (by omega),aL h1,aL h1,aL hi]
 ·by_cases h2:i<off+us.length
  ·have f1:i<(l.take off++us).length:=by rw[bw,e1]; omega
   have f2:i<((l.take n).take off++us).length:=by rw[bw,e2]; omega
   rw[au f1,au f2,aJ (by omega),aJ (by omega),e1,e2]
  ·have f1:(l.take off++us).length=off+us.length:=by rw[bw,e1]
   have f2:((l.take n).take off++us).length=off+us.length:=by rw[bw,e2]
   rw[aJ (by omega),aJ (by omega),f1,f2,aO,aO,aL (by omega)]
theorem CR (hh:bO X φ w H) {b off:Nat} {cs:List AV} (hb:aN H b=some cs) {v:Value} (r:bD (Rd X φ w) φ (.ptr b off) v) {ds:List AV} {us:List Value} (dB:Cs X φ w ds us)
  (h1:∀u∈us,u.oneCell'=true) (oS:off+ds.length<=cs.length) :
  ∃ g w',v=.pointer (some ⟨g,off,none⟩)/\(storeCells ⟨g,off,none⟩ us).run P w=.ok () w'/\bO X φ w' (H.set b (some (iX cs off ds)))/\eT φ w φ w':=by
 obtain⟨g,sz,arr,e,rfl,jT,hg,mO,hle,hX,hm,_⟩:=Jy.Ny hh hb r;have FW:=run_storeCells_at P g off e us 0 arr w hg (by rw[<-dB.1]; omega) h1;simp only[Cb] at FW
 have zT:(arr.toList.take off++us++arr.toList.drop (off+us.length)).toArray.size=arr.size:=by
  simp only[ss,bw,bg,dR,qo,<-dB.1]; omega
 have key:∀(i:Nat) (x:AV),(iX cs off ds)[i]?=some x->∃u,(arr.toList.take off++us++arr.toList.drop (off+us.length)).toArray[i]?=some u/\bD (Rd X φ w) φ x u:=by
  intro i x hx
  have Cn:Cs X φ w (cs.take cs.length) (arr.toList.take cs.length):=by
   refine⟨by simp; omega,fun i c u hc hu=>?_⟩;have hi:i<cs.length:=by have:=aj hc; simp at this; omega
   rw[aL hi] at hc hu;obtain⟨u',h1,h2⟩:=hm i c hc;simp at hu;rw[h1] at hu;simp at hu;subst hu;exact h2
  rw[List.take_length] at Cn;have hov:=Cn.iX dB off;obtain⟨u,hu,r⟩:=hov.get hx;refine⟨u,?_,r⟩;have hi:i<cs.length:=by have:=aj hx; rw[fO oS] at this; exact this
  have hul:=dB.1;simp only[wx];rw[<-hu];exact YD arr.toList us off cs.length i (by omega) (by simp; omega) hi
 obtain⟨k1,k2⟩:=hh.store (cs':=iX cs off ds) (arr':=(arr.toList.take off++us++arr.toList.drop (off+us.length)).toArray) jT hg mO zT rfl hX
  (by rw[fO oS,zT]; omega) key
 exact⟨g,_,rfl,FW,k1,k2⟩
theorem VN {t:TypeId} {x y:Operand} {b off k:Nat} {cs:List AV} {v:AV} (eI:o.op=.store t x y) (hh:bO X φ w H) (hb:aN H b=some cs) (hk:nd P t k=true)
  (rx:bD (Rd X φ w) φ (.ptr b off) (a.eval x)) (ry:bD (Rd X φ w) φ v (a.eval y)) (hl:v.cells.length=k) (oS:off+k<=cs.length) (hs:bm v.cells=true) :
  Ok P X φ w o a .undef (H.set b (some (iX cs off v.cells))):=by
 obtain⟨dB,h1⟩:=ry.cs hs;obtain⟨g,w',hx,FW,k1,k2⟩:=CR (P:=P) hh hb rx dB h1 (by omega);refine Ok.skip ?_ k1 k2;unfold nd at hk;split at hk
 ·rename_i i hi;simp at hk;have mO:(a.eval y).cells.size=i.size:=by have:=dB.1; simp at this; omega
  simp[execOp,eI,hx,Instr.storeAt,Instr.sureAddr,storeVar,ia hi,mO,FW]
 ·cases hk

/-! Composite literals -/
theorem EL (off:Nat):∀(l:List Value) (n:Nat) (arr:Array Value),
  ((l.zipIdx n).foldl (fun cs (p:Value × Nat)=>cs.setIfInBounds (off+p.2) p.1) arr).size=arr.size /\
  (off+n+l.length<=arr.size->((l.zipIdx n).foldl (fun cs (p:Value × Nat)=>cs.setIfInBounds (off+p.2) p.1) arr).toList=arr.toList.take (off+n)++l++arr.toList.drop (off+n+l.length))
 |[],n,arr=>by simp
 |v::r,n,arr=>by
   simp only[List.zipIdx_cons,List.foldl_cons];obtain⟨h1,h2⟩:=EL off r (n+1) (arr.setIfInBounds (off+n) v);refine⟨by rw[h1]; simp,fun oS=>?_⟩;simp only[dz] at oS;rw[h2 (by simp; omega)];apply dq;intro i;simp only[Array.toList_setIfInBounds,dz];by_cases h0:i<off+n
   ·rw[au (by simp; omega),au (by simp; omega),au (by simp; omega),au (by simp; omega),
     aL (by omega),aL h0,kf (by omega)]
   ·by_cases h3:i=off+n
    ·subst h3
     rw[au (by simp; omega),au (by simp; omega),au (by simp; omega),aJ (by simp; omega),
      aL (by omega),List.getElem?_set_self (by simp; omega)]
     have e1:(arr.toList.take (off+n)).length=off+n:=by simp; omega
     rw[e1]; simp
    ·by_cases h4:i<off+n+(r.length+1)
     ·rw[au (by simp; omega),aJ (by simp; omega),au (by simp; omega),aJ (by simp; omega)];have e1:(arr.toList.take (off+n)).length=off+n:=by simp; omega
      have e2:((arr.toList.set (off+n) v).take (off+(n+1))).length=off+n+1:=by simp; omega
      rw[e1,e2,show i-(off+n)=(i-(off+n+1))+1 by omega,mR]
     ·rw[aJ (by simp; omega),aJ (by simp; omega),aO,aO,kf (by simp; omega)];congr 1;simp only[bw,bg,List.length_set,qo,dz];omega
theorem TU (v:Value) (off:Nat) (arr:Array Value) (h:off+v.cells.size<=arr.size) :
  (v.cells.zipIdx.foldl (fun cs (p:Value × Nat)=>cs.setIfInBounds (off+p.2) p.1) arr).toList=arr.toList.take off++v.cells.toList++arr.toList.drop (off+v.cells.toList.length):=by
 have h2:=(EL off v.cells.toList 0 arr).2 (by simpa using h);rw[<-Array.foldl_toList,Array.toList_zipIdx];simpa using h2
theorem rN (he:oZ X φ w env a.tmps) (hg:dD c X φ w) {place:Nat->Option (Nat × Nat)}:∀{ps:List (Nat × Operand)} {qs:List (Nat × Nat × E)} {zs cs:List AV} {arr:Array Value},
  qV place ps qs=true->Cs X φ w zs arr.toList->oW c env zs qs=some cs->∃arr',Instr.fill place arr (ps.map fun p=>(p.1,a.eval p.2))=some arr'/\Cs X φ w cs arr'.toList
 |[],[],zs,cs,arr,_,hz,hf=>by simp[oW] at hf; subst hf; exact⟨arr,rfl,hz⟩
 |[],_::_,_,_,_,h,_,_=>by simp[qV] at h
 |_::_,[],_,_,_,h,_,_=>by simp[qV] at h
 |(i,x)::r,(off,sz,y)::s,zs,cs,arr,h,hz,hf=>by
   simp only[qV,ae,decide_eq_true_eq] at h;obtain⟨⟨hp,hx⟩,G3⟩:=h;simp only[oW] at hf;split at hf
   ·rename_i hc;obtain⟨h1,h2,h3⟩:=hc;obtain⟨dB,_⟩:=(bL he hg hx).cs h3;have mO:(a.eval x).cells.size=sz:=by have:=dB.1; simp at this; omega
    have A9:zs.length=arr.size:=by simpa using hz.1
    have afA:=TU (a.eval x) off arr (by omega)
    have LF:Cs X φ w (iX zs off (ev c env y).cells) ((a.eval x).cells.zipIdx.foldl (fun cs (p:Value × Nat)=>cs.setIfInBounds (off+p.2) p.1) arr).toList:=by
     rw[afA]; exact hz.iX dB off
    obtain⟨arr',e1,e2⟩:=rN he hg G3 LF hf;refine⟨arr',?_,e2⟩;simp only[eJ,Instr.fill,hp];rw[if_neg (by simp[mO]; omega)];exact e1
   ·cases hf

theorem run_places (fs:List Field) (h:∀f∈fs,(P.info? f.type).isSome=true) :
  (fs.mapM (m:=Sem) fun f=>do pure (f.offset,<-sizeOf f.type)).run P w=.ok (fs.map fun f=>(f.offset,((P.info? f.type).map (·.size)).getD 0)) w:=by
 induction fs with
 |nil=>rfl
 |cons f r ih=>
   obtain⟨i,hi⟩:=aM.1 (h f (by simp));have ih':=ih fun g hg=>h g (by simp[hg]);simp only[List.mapM_cons,Sem.run_bind,ia hi,Result.andThen_ok,Sem.run_pure,ih',eJ,hi,bV,eX]
theorem VZ {t:TypeId} {ps:Array (Nat × Operand)} {qs:List (Nat × Nat × E)} {zs cs:List AV} (eI:o.op=.build t ps) (hh:bO X φ w H) (he:oZ X φ w env a.tmps) (hg:dD c X φ w)
  (hz:pf P t zs=true) (hu:(match P.underlying t with
  |some (.struct fs)=>(fs.toList.all fun f=>(P.info? f.type).isSome)&&qV (rq P fs) ps.toList qs
  |some (.array _ e)=>match P.info? e with
    |some i=>qV (fun j=>some (j*i.size,i.size)) ps.toList qs
    |none=>false
  |_=>false)=true) (hf:oW c env zs qs=some cs):Ok P X φ w o a (.agg cs) H:=by
 obtain⟨i,z,hi,hz,dB,_⟩:=sx (X:=X) (φ:=φ) (w:=w) hz;split at hu
 ·rename_i fs hut;simp only[ae,rT] at hu;obtain⟨arr',e1,e2⟩:=rN he hg hu.2 dB hf;refine Ok.quiet (v':=.agg arr') ?_ (.agg _ _ _ (by simpa using e2.1) fun i c v hc hv=>e2.2 i c v hc (by simpa using hv)) hh;have mX:=run_places (P:=P) (w:=w) fs.toList hu.1
  have hpl2:(fs.mapM (m:=Sem) fun f=>do pure (f.offset,<-sizeOf f.type)).run P w=.ok (fs.toList.map fun f=>(f.offset,((P.info? f.type).map (·.size)).getD 0)).toArray w:=by
   rw[<-xw (xs:=fs),List.mapM_toArray];simp only[Sem.run_map,mX,Result.andThen_ok,xw]
  have adH:(fun j=>((fs.toList.map fun f=>(f.offset,((P.info? f.type).map (·.size)).getD 0)).toArray)[j]?)=rq P fs:=by
   funext j;simp only[wx,cF,eF,rq];cases hfj:fs[j]? with
   |none=>rfl
   |some f=>
     obtain⟨i,hi⟩:=aM.1 (hu.1 f (MW.2 (Array.mem_of_getElem? hfj)));simp[hi]
  simp only[execOp,eI,Instr.build,Sem.run_bind,qB hi hz,Result.andThen_ok,run_underlying hut,hpl2,adH];have:(Cc (fun x=>(x.1,a.eval x.2)) ps).toList=ps.toList.map fun p=>(p.1,a.eval p.2):=by simp
  simp only[this,e1,Sem.run_pure,Result.andThen_ok]
 ·rename_i n e hut;split at hu
  ·rename_i ie hie;obtain⟨arr',e1,e2⟩:=rN he hg hu dB hf;refine Ok.quiet (v':=.agg arr') ?_ (.agg _ _ _ (by simpa using e2.1) fun i c v hc hv=>e2.2 i c v hc (by simpa using hv)) hh;have:(Cc (fun x=>(x.1,a.eval x.2)) ps).toList=ps.toList.map fun p=>(p.1,a.eval p.2):=by simp
   simp only[execOp,eI,Instr.build,Sem.run_bind,qB hi hz,Result.andThen_ok,run_underlying hut,ia hie,this,e1,Sem.run_pure]
  ·cases hu
 ·cases hu

theorem Pd (zs:List AV):∀(n i:Nat),i<n*zs.length->(rep zs n)[i]?=zs[i%zs.length]?
 |0,i,h=>by simp at h
 |n+1,i,h=>by
   rw[rep];by_cases hi:i<zs.length
   ·rw[au hi,Nat.mod_eq_of_lt hi]
   ·rw[aJ (by omega),Pd zs n _ (by rw[cj] at h; omega),<-Nat.mod_eq_sub_mod (by omega)]
theorem kU (zs:List AV):∀n,(rep zs n).length=n*zs.length
 |0=>by simp[rep]
 |n+1=>by rw[rep,bw,kU zs n,cj]; omega
theorem UZ {zs:List AV} (h:bm zs=true):∀n,bm (rep zs n)=true:=by
 have app:∀{a b:List AV},bm a=true->bm b=true->bm (a++b)=true:=by
  intro a
  induction a with
  |nil=>intro b _ hb; exact hb
  |cons x r ih=>intro b ha hb; simp only[bm,ae,List.cons_append] at *; exact⟨ha.1,ih ha.2 hb⟩
 intro n
 induction n with
 |zero=>rfl
 |succ n ih=>exact app h ih
theorem Ni {zs:List AV} {z:Array Value} (h:Cs X φ w zs z.toList) {n m:Nat} (hm:n*z.size<=m) {arr:Array Value} (hz:arr.size=m) (ha:∀i,i<m->arr[i]?=some (z[i%z.size]!)) :
  ∀ (i:Nat) (c:AV),(rep zs n)[i]?=some c->∃u,arr[i]?=some u/\bD (Rd X φ w) φ c u:=by
 intro i c hc;have A9:zs.length=z.size:=by simpa using h.1
 have hi:i<n*zs.length:=by have:=aj hc; rwa [kU] at this
 rw[Pd zs n i hi] at hc;rw[A9] at hc hi;refine⟨_,ha i (by omega),?_⟩;obtain⟨u,hu,r⟩:=h.get hc;simp at hu;rw[getElem!_def,hu];exact r
theorem Tq {t:TypeId} {n k:Nat} {ps:Array (Nat × Operand)} {qs:List (Nat × Nat × E)} {zs cs:List AV} (eI:o.op=.buildSlice t n ps) (hh:bO X φ w H) (he:oZ X φ w env a.tmps) (hg:dD c X φ w)
  (hk:ik P t k=true) (hz:gN P t zs=true) (hn:n*k<=16777216) (hq:qV (fun j=>some (j*k,k)) ps.toList qs=true) (hf:oW c env (rep zs n) qs=some cs) :
  Ok P X φ w o a (.sl k H.length 0 n) (H++[some cs]):=by
 obtain⟨e,i,z,hu,hi,tr,ZW,Z2,LC,MD⟩:=iw hk;simp only[gN,hu] at hz;obtain⟨i',z',w7,FT,dB,_⟩:=sx (X:=X) (φ:=φ) (w:=w) hz;rw[hi] at w7;simp at w7;subst w7;rw[LC] at FT;simp at FT;subst FT;have A9:zs.length=k:=by have:=dB.1; simp at this; omega
 have Cn:Cs X φ w (rep zs n) ((xx (n*k)).map (z.cells[·%z.cells.size]!)).toList:=by
  refine⟨by rw[kU,A9]; simp,fun j c v hc hv=>?_⟩;obtain⟨u,h1,h2⟩:=Ni dB (n:=n) (m:=n*k) (by rw[MD]; omega) (arr:=(xx (n*k)).map (z.cells[·%z.cells.size]!)) (by simp) (fun i hi=>by simp[hi]) j c hc;rw[eF,h1] at hv;simp at hv;subst hv;exact h2
 obtain⟨arr',e1,e2⟩:=rN he hg hq Cn hf
 have mO:arr'.size=n*k:=by
  have fl:∀{ps:List (Nat × Nat × E)} {zs cs:List AV},oW c env zs ps=some cs->cs.length=zs.length:=by
   intro ps
   induction ps with
   |nil=>intro zs cs h; simp[oW] at h; rw[h]
   |cons p r ih=>
     intro zs cs h;obtain⟨o,s,y⟩:=p;simp only[oW] at h;split at h
     ·rename_i hc; rw[ih h,fO (by omega)]
     ·cases h
  have h1:=fl hf;have h2:=e2.1;simp only[qo] at h2;rw[<-h2,h1,kU,A9]
 obtain⟨h1,h2⟩:=tj hh (w1:=w) (arr:=arr') (e:=e) rfl rfl rfl rfl (by rw[e2.1]; simp) (e2.at (by simp));refine Ok.value ?_ (Is hh.len (aG n) (by omega)) h1 h2;have uV:(Cc (fun x=>(x.1,a.eval x.2)) ps).toList=ps.toList.map fun p=>(p.1,a.eval p.2):=by simp
 have MF : ¬ (n * k > 2 ^ 24) := by have : (2:Nat) ^ 24 = 16777216 := by decide
                                    omega
 have hzero:(if n*i.size=0 then (pure #[]:Sem (Array Value)) else do pure (<- zeroValue e).cells).run P w=.ok (if n*k=0 then #[] else z.cells) w:=by
  rw[tr];split<;>simp[qB hi LC]
 have adJ:(xx (n*k)).map ((if n*k=0 then #[] else z.cells)[·%(if n*k=0 then #[] else z.cells).size]!)=(xx (n*k)).map (z.cells[·%z.cells.size]!):=by
  by_cases h0:n*k=0
  ·simp[h0]
  ·simp[h0]
 simp only[execOp,eI,Instr.buildSlice,Sem.run_bind,run_underlying hu,Result.andThen_ok,ia hi,tr,Sem.run_ite,MF,if_false];rw[tr] at hzero;simp only[Sem.run_ite,Sem.run_bind,Sem.run_pure,qB hi LC,Result.andThen_ok] at hzero ⊢;have e1':=e1;rw[<-adJ,<-uV] at e1';split
 ·rename_i h0;simp only[h0,if_true] at e1' ⊢;simp only[Result.andThen_ok,Array.range_zero',Array.map_empty] at e1' ⊢;rw[show (Instr.fill (fun i=>some (i*k,k)) #[] (Cc (fun x=>(x.1,a.eval x.2)) ps).toList)=some arr' from e1'];simp[newRow]
 ·rename_i h0;simp only[h0,if_false,Result.andThen_ok] at e1' ⊢;rw[show (Instr.fill (fun i=>some (i*k,k)) ((xx (n*k)).map (z.cells[·%z.cells.size]!)) (Cc (fun x=>(x.1,a.eval x.2)) ps).toList)=some arr' from e1'];simp[newRow]
end
end Go.Am

/- What one operation of the dump does: numbers, tests, slices, append. -/
namespace Go.Am
section
variable {P:Program} {c:dM} {X:Nat->Prop} {φ:cX} {w:World} {env:Env} {H:Heap} {a:Act} {o:Oper}

theorem Y3 {x y z:Operand} {t:Bool} {u v:AV} (eI:o.op=.pick x y z) (hh:bO X φ w H) (r:bD (Rd X φ w) φ (.bool t) (a.eval x)) (ru:bD (Rd X φ w) φ u (a.eval y)) (rv:bD (Rd X φ w) φ v (a.eval z)) :
  Ok P X φ w o a (if t then u else v) H:=by
 have hx:=lZ r;cases t
 ·exact Ok.quiet (v':=a.eval z) (by simp[execOp,eI,hx,asBool]) (by simpa using rv) hh
 ·exact Ok.quiet (v':=a.eval y) (by simp[execOp,eI,hx,asBool]) (by simpa using ru) hh
theorem Pc {R:Addr->Value->Prop} {s:ByteArray} {v:Value} (h:bD R φ (.str s) v):v=.string s:=by cases h; rfl
theorem adj {op:BinOp} {t t':TypeId} {x y:Operand} {u v r:AV} (eI:o.op=.binOp op t x y t') (hh:bO X φ w H) (ru:bD (Rd X φ w) φ u (a.eval x)) (rv:bD (Rd X φ w) φ v (a.eval y)) (hr:qg op u v=some r) :
  Ok P X φ w o a r H:=by
 have uG:=hr;unfold qg at uG;split at uG
 ·rename_i k n k' n';have hx:=gq ru;have hy:=gq rv;obtain⟨v',h1,h2⟩:=YJ (P:=P) (w:=w) (t:=t) hr;exact Ok.quiet (v':=v') (by simp[execOp,eI,hx,hy,eqGuard_at_int,h1]) (h2 _ _) hh
 ·rename_i s1 s2;split at uG
  case h_2=>cases uG
  split at uG
  case isFalse=>cases uG
  rename_i hl;simp only[af] at uG;subst uG;have hx:=Pc ru;have hy:=Pc rv;exact Ok.quiet (v':=.string (s1++s2)) (by simp[execOp,eI,hx,hy,eqGuard_at_string,binOp,run_string_add_sum w s1 s2 (by omega)]) (.str _ _) hh
 ·cases uG

theorem Nf (d:Nat) {t e:TypeId} (h:P.underlying t=some (.slice e)) (x:Option Addr) (n m:Nat):(Op.equalIn (d+1) t (.slice x n m) (.slice none 0 0)).run P w=.ok x.isNone w:=by
 cases x<;>simp[Op.equalIn,run_underlying h]
theorem JR (d:Nat) {t e:TypeId} (h:P.underlying t=some (.pointer e)) (x:Option Addr):(Op.equalIn (d+1) t (.pointer x) (.pointer none)).run P w=.ok x.isNone w:=by
 cases x<;>simp[Op.equalIn,run_underlying h]
theorem Ng (d:Nat) {t:TypeId} {ps rs:Array TypeId} {vr:Bool} (h:P.underlying t=some (.func ps rs vr)) (f:Fn) (x y:Array Value):(Op.equalIn (d+1) t (.func f x y) .nilFunc).run P w=.ok false w:=by
 simp[Op.equalIn,run_underlying h]
theorem JS (d:Nat) {t:TypeId} {ps rs:Array TypeId} {vr:Bool} (h:P.underlying t=some (.func ps rs vr)):(Op.equalIn (d+1) t .nilFunc .nilFunc).run P w=.ok true w:=by
 simp[Op.equalIn,run_underlying h]
theorem YI {op:BinOp} {ng:Bool} {t:TypeId} {x y:Operand} {u v:Value} {e:Bool} (ho:eqOp op ng=true) (hg:(eqGuard op t x y u v).run P w=.ok () w) (hb:∀op',binOp .eql t u v=(do pure (.bool (<- Op.equal t u v)))/\(op'=BinOp.neq->binOp .neq t u v=(do pure (.bool (!(<- Op.equal t u v))))))
  (h:(Op.equalIn 10000 t u v).run P w=.ok e w):(do eqGuard op t x y u v; binOp op t u v).run P w=.ok (.bool (if ng then !e else e)) w:=by
 have h':(Op.equal t u v).run P w=.ok e w:=by unfold Op.equal Op.maxDepth; exact h
 cases op<;>simp[eqOp] at ho
 ·subst ho;simp only[Sem.run_bind,hg,Result.andThen_ok,(hb .eql).1,h',Sem.run_pure];simp
 ·subst ho;simp only[Sem.run_bind,hg,Result.andThen_ok,(hb .neq).2 rfl,h',Sem.run_pure];simp
theorem ok_eq {op:BinOp} {ng:Bool} {et:Et} {t t':TypeId} {x y:Operand} {u v:AV} {e:Bool} (eI:o.op=.binOp op t x y t') (hh:bO X φ w H) (ho:eqOp op ng=true) (hc:E4 P t et=true) (ru:bD (Rd X φ w) φ u (a.eval x)) (rv:bD (Rd X φ w) φ v (a.eval y)) (hr:TV et u v=some e) :
  Ok P X φ w o a (.bool (if ng then !e else e)) H:=by
 have fin:∀{p q:Value},a.eval x=p->a.eval y=q->(eqGuard op t x y p q).run P w=.ok () w ->
   (∀op',binOp .eql t p q=(do pure (.bool (<- Op.equal t p q)))/\(op'=BinOp.neq->binOp .neq t p q=(do pure (.bool (!(<- Op.equal t p q))))))->(Op.equalIn 10000 t p q).run P w=.ok e w ->
   Ok P X φ w o a (.bool (if ng then !e else e)) H:=by
  intro p q hp hq hg hb h;have:=YI (x:=x) (y:=y) ho hg hb h;refine Ok.quiet ?_ (.bool _ _) hh;simp only[execOp,eI,hp,hq,Sem.run_bind,Result.andThen_ok,Sem.run_pure] at this ⊢;rw[this];rfl
 unfold TV at hr;split at hr
 ·rename_i b b';simp at hr;subst hr;have hx:=lZ ru;have hy:=lZ rv;simp only[E4] at hc;split at hc
  ·rename_i hu;refine fin hx hy (by rw[eqGuard_at_bool]; rfl) (fun _=>⟨by simp[binOp],fun _=>by simp[binOp]⟩) ?_;exact run_equalIn_bool w 9999 t b b' hu
  ·cases hc
 ·rename_i l xs ys;generalize hx:a.eval x=p at ru;generalize hy:a.eval y=q at rv;cases ru with
  |agg _ _ vx Be hrx=>
    cases rv with
    |agg _ _ vy Bd hry=>
      simp only[E4] at hc;split at hc
      ·rename_i fs hu;simp only[ae,bn] at hc;obtain⟨⟨MI,F1⟩,hc3⟩:=hc;have hfo:P.fieldsOf t=fs:=by simp[Program.fieldsOf,hu]
       refine fin hx hy (run_eqGuard_agg w op t x y vx vy F1) (fun _=>⟨by simp[binOp],fun _=>by simp[binOp]⟩) ?_;rw[show (10000:Nat)=9999+1 from rfl,run_equalIn_struct w 9999 t vx vy (by rw[hu,hfo]) MI,hfo];exact tv 9998 fs.toList l 0 xs ys vx vy e hc3 (by simpa using hr) Be Bd hrx hry
      ·cases hc
 ·generalize hy:a.eval y=q at rv;cases rv;simp only[E4] at hc;split at hc
  ·rename_i el hu
   have sl:∀{ad:Option Addr} {n m:Nat},a.eval x=.slice ad n m->ad.isNone=e->Ok P X φ w o a (.bool (if ng then !e else e)) H:=by
    intro ad n m hx he;subst he;exact fin hx hy (by rw[eqGuard_at_slice]; rfl) (fun _=>⟨by simp[binOp],fun _=>by simp[binOp]⟩) (Nf 9999 hu ad n m)
   generalize hx:a.eval x=p at ru;cases ru<;>simp[isNil] at hr
   case di=>exact sl hx (by simpa using hr)
   case sl=>exact sl hx (by simpa using hr)
   case uU xs _ _ _ _ _ _ _ _ _=>
    cases xs<;>simp[isNil] at hr
    exact sl hx (by simpa using hr)
  ·cases hc
 ·generalize hy:a.eval y=q at rv;cases rv;simp only[E4] at hc;split at hc
  ·rename_i el hu
   have pt:∀{ad:Option Addr},a.eval x=.pointer ad->ad.isNone=e->Ok P X φ w o a (.bool (if ng then !e else e)) H:=by
    intro ad hx he;subst he;exact fin hx hy (by rw[eqGuard_at_pointer]; rfl) (fun _=>⟨by cases ad<;>simp[binOp],fun _=>by cases ad<;>simp[binOp]⟩) (JR 9999 hu ad)
   generalize hx:a.eval x=p at ru;cases ru<;>simp[isNil] at hr
   case fg=>exact pt hx (by simpa using hr)
   case ptr=>exact pt hx (by simpa using hr)
   case de=>exact pt hx (by simpa using hr)
  ·cases hc
 ·generalize hy:a.eval y=q at rv;cases rv;simp only[E4] at hc;split at hc
  ·rename_i ps rs vr hu;generalize hx:a.eval x=p at ru;cases ru
   case fj=>simp[isNil] at hr; subst hr; exact fin hx hy (by rw[eqGuard_at_nilFunc]; rfl) (fun _=>⟨by simp[binOp],fun _=>by simp[binOp]⟩) (JS 9999 hu)
   case func f as va bs vb hyy _ _ _ _=>simp[isNil,hyy] at hr; subst hr; exact fin hx hy (by rw[eqGuard_at_func]; rfl) (fun _=>⟨by simp[binOp],fun _=>by simp[binOp]⟩) (Ng 9999 hu _ _ _)
   all_goals (simp[isNil,uF] at hr; done)
  ·cases hc
 ·cases hr
theorem afm {op:UnOp} {t:TypeId} {x:Operand} {u r:AV} (eI:o.op=.unOp op t x) (hh:bO X φ w H) (ru:bD (Rd X φ w) φ u (a.eval x)) (hr:M1 op u=some r):Ok P X φ w o a r H:=by
 unfold M1 at hr;split at hr
 ·have hx:=gq ru;simp at hr; subst hr;exact Ok.quiet (v':=.int _ _) (by simp[execOp,eI,hx,Op.unary,Op.intArith]) (.int _ _ _) hh
 ·have hx:=gq ru;simp at hr; subst hr;exact Ok.quiet (by simp[execOp,eI,hx,Op.unary,intBits_xor]) (.int _ _ _) hh
 ·have hx:=lZ ru;simp at hr; subst hr;exact Ok.quiet (by simp[execOp,eI,hx,Op.unary]) (.bool _ _) hh
 ·cases hr
theorem adg {s d:TypeId} {x:Operand} {k k':IntKind} {n:Int} (eI:o.op=.convert s d x) (hh:bO X φ w H) (hs:(P.underlying s).isSome=true) (hd:P.underlying d=some (.int k)) (ru:bD (Rd X φ w) φ (.int k' n) (a.eval x)) :
  Ok P X φ w o a (.int k (k.wrap n)) H:=by
 have hx:=gq ru;obtain⟨d',hd'⟩:=aM.mp hs;exact Ok.quiet (by simp[execOp,eI,hx,convert,run_underlying hd',run_underlying hd,Conv.intToInt]) (.int _ _ _) hh
theorem ac2 {fn:Fn} {as bs:Array Operand} {xs ys:List E} (eI:o.op=.makeFunc fn as bs) (hh:bO X φ w H) (he:oZ X φ w env a.tmps) (hg:dD c X φ w) (ha:iy as.toList xs=true) (hb:iy bs.toList ys=true) (hy:uF fn=false) :
  Ok P X φ w o a (.func fn (CH c env xs) (CH c env ys)) H:=by
 obtain⟨l1,h1⟩:=nH he hg ha;obtain⟨l2,h2⟩:=nH he hg hb;refine Ok.quiet (v':=.func fn (as.map a.eval) (bs.map a.eval)) (by simp[execOp,eI,Instr.makeFunc]) (.func _ _ _ _ _ _ hy (by simp[l1]) (by simp[l2]) (fun i c v hc hv=>h1 i c v hc ?_) (fun i c v hc hv=>h2 i c v hc ?_)) hh
 ·simpa using hv
 ·simpa using hv
theorem ac1 {t:TypeId} {k:Nat} {zs:List AV} {x y:Operand} {k1 k2:IntKind} {l cp:Int} (eI:o.op=.makeSlice t x y) (hh:bO X φ w H) (hk:ik P t k=true) (hz:gN P t zs=true)
  (rx:bD (Rd X φ w) φ (.int k1 l) (a.eval x)) (ry:bD (Rd X φ w) φ (.int k2 cp) (a.eval y)) (h0:0<=l) (h1:l<=cp) (h2:cp<=(p7:Int)) :
  Ok P X φ w o a (.sl k H.length 0 l.toNat) (H++[some (rep zs l.toNat)]):=by
 obtain⟨e,i,z,hu,hi,tr,ZW,Z2,LC,MD⟩:=iw hk;simp only[gN,hu] at hz;obtain⟨i',z',w7,FT,dB,_⟩:=sx (X:=X) (φ:=φ) (w:=w) hz;rw[hi] at w7;simp at w7;subst w7;rw[LC] at FT;simp at FT;subst FT;have A9:zs.length=k:=by have:=dB.1; simp at this; omega
 have hx:=gq rx;have hy:=gq ry;have hL:(p7:Int)=4294967296:=rfl
 have hb:(i.bytes:Int)*cp<=281474976710656:=by
  have h3:(i.bytes:Int)*cp<=1024*4294967296:=Int.mul_le_mul (by omega) (by omega) (by omega) (by omega);omega
 have oQ:=run_make (P:=P) w t e i z hu hi LC k1 k2 l cp h0 h1 hb (by omega);have hlc:l.toNat<=cp.toNat:=by omega
 have IG:l.toNat * k<=cp.toNat * k:=bK _ hlc;have hms:(madeCells z.cells (cp.toNat * i.size)).size=cp.toNat * k:=by rw[size_madeCells,tr]
 obtain⟨q1,q2⟩:=tj hh (w1:=w) (arr:=madeCells z.cells (cp.toNat * i.size)) (e:=e) (cs:=rep zs l.toNat) rfl rfl rfl rfl (by rw[kU,hms,A9]; exact IG)
  (Ni dB (m:=cp.toNat * k) (by rw[MD]; exact IG) hms (fun j hj=>by rw[tr]; simp[madeCells,hj]))
 refine Ok.value (v':=.slice (some ⟨w.heap.size,0,none⟩) l.toNat cp.toNat) ?_ (Is hh.len hlc (by rw[hms]; exact aG _)) q1 q2;simp only[execOp,eI,hx,hy,Sem.run_bind,oQ,Result.andThen_ok,Sem.run_pure]

theorem XS {x:AV} {hi n:Nat} (h:bnd x hi=some n):∃k i,x=.int k i/\0<=i/\i<=(hi:Int)/\n=i.toNat:=by
 unfold bnd at h;split at h
 ·rename_i k i;split at h
  ·rename_i hc; simp at h; exact⟨k,i,rfl,hc.1,hc.2,h.symm⟩
  ·cases h
 ·cases h
theorem vO {x:AV} {len j:Nat} (h:idx x len=some j):∃k i,x=.int k i/\0<=i/\i<(len:Int)/\j=i.toNat/\j<len:=by
 unfold idx at h;split at h
 ·rename_i k i;split at h
  ·rename_i hc; simp at h; exact⟨k,i,rfl,hc.1,hc.2,h.symm,by omega⟩
  ·cases h
 ·cases h
theorem run_sliceBound {k:IntKind} {i:Int} {y:Nat} {cd:BoundsCode} (h0:0<=i) (h1:i<=(y:Int)):(Instr.sliceBound (.int k i) y cd).run P w=.ok i.toNat w:=by
 simp[Instr.sliceBound,asIntOf,h0,h1]
theorem ve (he:oZ X φ w env a.tmps) (hg:dD c X φ w) {x:Operand} {y:E} {n m cap:Nat} {cd:BoundsCode} (hx:cH x y=true) (hn:n<=cap) (h:bnd (ev c env y) n=some m) :
  (Instr.sliceBound (a.eval x) cap cd).run P w=.ok m w/\m<=n:=by
 obtain⟨k,i,e1,e2,e3,e4⟩:=XS h;have r:=bL (a:=a) he hg hx;rw[e1] at r;rw[gq r,e4];exact⟨run_sliceBound e2 (by omega),by omega⟩
theorem C7 (he:oZ X φ w env a.tmps) (hg:dD c X φ w) {lo hi:Option Operand} {lo' w7:Option E} {n cap h l:Nat} (hlo:qY lo lo'=true) (TJ:qY hi w7=true) (hn:n<=cap)
  (hh:Ai c env n n w7=some h) (hl:Ai c env 0 h lo'=some l):(Instr.sliceBounds true n cap (lo.map a.eval) (hi.map a.eval) none).run P w=.ok (l,h,cap) w/\l<=h/\h<=n:=by
 cases lo<;>cases lo'<;>simp only[qY] at hlo<;>try (cases hlo; done)
 all_goals
  cases hi<;>cases w7<;>simp only[qY] at TJ<;>try (cases TJ; done)
 all_goals simp only[Ai] at hh hl
 ·simp at hh hl;subst hh; subst hl;exact⟨by simp[Instr.sliceBounds],by omega,aG _⟩
 ·obtain⟨h1,h2⟩:=ve (P:=P) (cd:=.sliceAcap) he hg TJ hn hh;simp at hl;subst hl;exact⟨by simp[Instr.sliceBounds,h1],by omega,h2⟩
 ·simp at hh;subst hh;obtain⟨h1,h2⟩:=ve (P:=P) (cd:=.sliceB) he hg hlo (aG _) hl;exact⟨by simp[Instr.sliceBounds,h1],h2,aG _⟩
 ·obtain⟨h1,h2⟩:=ve (P:=P) (cd:=.sliceAcap) he hg TJ hn hh;obtain⟨h3,h4⟩:=ve (P:=P) (cd:=.sliceB) he hg hlo (aG _) hl;exact⟨by simp[Instr.sliceBounds,h1,h3],h4,h2⟩
theorem YG {t e:TypeId} {i:TypeInfo} (hu:P.underlying t=some (.slice e)) (hi:P.info? e=some i) {ad:Option Addr} {n cap l h:Nat} {lo w7:Option Value} (hb:(Instr.sliceBounds true n cap lo w7 none).run P w=.ok (l,h,cap) w) :
  (Instr.sliceAt t (.slice ad n cap) lo w7 none).run P w=.ok (.slice (if cap=l then ad else ad.map (·.add (l*i.size))) (h-l) (cap-l)) w:=by
 simp only[Instr.sliceAt,Instr.slice,Sem.run_bind,run_underlying hu,Result.andThen_ok,hb,ia hi,Sem.run_pure]
theorem acZ {t:TypeId} {k:Nat} {x:Operand} {y:E} {lo hi:Option Operand} {lo' w7:Option E} {v:AV} {H':Heap} {fl:Fp} {call:Nat->List AV->Heap->Option (AV × Heap)} (eI:o.op=.slice t x lo hi none) (hh:bO X φ w H) (he:oZ X φ w env a.tmps) (hg:dD c X φ w)
  (hk:ik P t k=true) (hx:cH x y=true) (hlo:qY lo lo'=true) (TJ:qY hi w7=true) (hs:fi c call env H (.FC k y lo' w7)=some (v,H',fl)):Ok P X φ w o a v H':=by
 obtain⟨e,i,z,hu,NR,tr,ZW,Z2,LC,MD⟩:=iw hk;have r:=bL (a:=a) he hg hx;simp only[fi] at hs;split at hs
 case h_2=>cases hs
 rename_i n hn;split at hs
 case h_2=>cases hs
 rename_i h hhv;split at hs
 case h_2=>cases hs
 rename_i l hlv
 have fin:∀{ad:Option Addr} {cap:Nat},a.eval x=.slice ad n cap->n<=cap->l<=h->h<=n->(l<=h->h<=n->bD (Rd X φ w) φ v (.slice (if cap=l then ad else ad.map (·.add (l*k))) (h-l) (cap-l)))->H'=H->Ok P X φ w o a v H':=by
  intro ad cap MJ hnc _ _ hr hH;obtain⟨h1,h2,h3⟩:=C7 (P:=P) he hg hlo TJ hnc hhv hlv;have:=YG (P:=P) hu NR (ad:=ad) h1;rw[tr] at this;subst hH;exact Ok.quiet (by simp only[execOp,eI,MJ,Cr,Sem.run_bind,this,Result.andThen_ok,Sem.run_pure]) (hr h2 h3) hh
 have le:∀cap,n<=cap->l<=h/\h<=n:=fun cap hc=>(C7 (P:=P) he hg hlo TJ hc hhv hlv).2;obtain⟨hlh,hhn⟩:=le n (aG _);generalize hy:ev c env y=yv at hs r hn;cases yv<;>simp only[Wp,af] at hn<;>try (cases hn; done)
 ·subst hn;simp at hs;obtain⟨rfl,rfl,rfl⟩:=hs;generalize MJ:a.eval x=ax at r;cases r;have hh0:h=0:=by omega
  have Yj:l=0:=by omega
  subst hh0; subst Yj;exact fin MJ (aG _) (aG _) (aG _) (fun _ _=>by simp; exact .di _) rfl
 ·rename_i k' xs;simp only at hs;split at hs
  case isFalse=>cases hs
  rename_i tq;subst tq;simp at hs;obtain⟨rfl,rfl,rfl⟩:=hs;generalize MJ:a.eval x=ax at r;cases r with
  |uU _ _ _ ad n' cap u MF iO Yk hur hr=>
    subst hn;subst MF;refine fin MJ iO hlh hhn (fun _ _=>?_) rfl;have hlen:((xs.take h).drop l).length=h-l:=by simp; omega
    by_cases Ju:cap=l
    ·have h0:(xs.take h).drop l=[]:=dH (by omega);rw[if_pos Ju,h0];refine .uU _ _ _ _ _ _ u (by simp; omega) (by omega) (by simp) (fun i j x c hx=>by simp at hx) (fun i j x c hx=>by simp at hx)
    ·rw[if_neg Ju]
     have get:∀(i:Nat) (x:AV),((xs.take h).drop l)[i]?=some x->xs[l+i]?=some x:=by
      intro i x hx;rw[aO,bC] at hx;split at hx
      ·exact hx
      ·cases hx
     refine .uU _ _ _ _ _ _ (fun i j=>u (l+i) j) hlen.symm (by omega) (fun x hx=>?_) (fun i j x c hx hc=>?_) (fun i j x c hx hc=>hr (l+i) j x c (get i x hx) hc)
     ·obtain⟨i,hi⟩:=bt hx;exact Yk x (aU (get i x hi))
     ·have:=hur (l+i) j x c (get i x hx) hc;rw[Addr.add_add]
      rwa [show l*k'+(i*k'+j)=(l+i)*k'+j by rw[cj]; omega]
  |j5=>
    simp at hn;subst hn;have hh0:h=0:=by omega
    have Yj:l=0:=by omega
    subst hh0; subst Yj;exact fin MJ (aG _) (aG _) (aG _) (fun _ _=>by simp; exact .j5 _ _) rfl
 ·rename_i k' b off len;simp only at hs;split at hs
  case isFalse=>cases hs
  rename_i tq;subst tq;simp at hs;obtain⟨rfl,rfl,rfl⟩:=hs;subst hn;generalize MJ:a.eval x=ax at r;cases r with
  |sl _ _ _ _ _ ad cap hb hc hp=>
    refine fin MJ hc hlh hhn (fun _ _=>?_) rfl;have e:(if cap=l then (some ad:Option Addr) else Option.map (·.add (l*k')) (some ad))=some (if cap=l then ad else ad.add (l*k')):=by split<;>simp
    rw[e];refine .sl _ _ _ _ _ _ _ hb (by omega) fun g sz hg=>?_;obtain⟨h1,h2⟩:=hp g sz hg;have hmul:l*k'+(cap-l)*k'=cap*k':=by rw[<-cj]; congr 1; omega
    refine⟨fun h0=>?_,by omega⟩;rw[if_neg (by omega),h1 (by omega),Addr.iq]

theorem Jy.drop {cs:List AV} {ad:Addr} (h:Jy X φ w cs ad) (n:Nat):Jy X φ w (cs.drop n) (ad.add n):=by
 intro j x hx;rw[aO] at hx;rw[Addr.add_add];exact h _ _ hx
theorem Hf {cs:List AV} {v:Value} (h:bD (Rd X φ w) φ (.de cs) v) (n:Nat):∃ad,v=.pointer (some ad)/\bD (Rd X φ w) φ (.de (cs.drop n)) (.pointer (some (ad.add n))):=by
 cases h with
 |de _ _ ad u hu h=>
   refine⟨ad,rfl,.de _ _ _ (fun j=>u (n+j)) (fun j c hc=>?_) (fun j c hc=>?_)⟩
   ·rw[aO] at hc;rw[Addr.add_add];exact hu _ _ hc
   ·rw[aO] at hc;exact h _ _ hc
theorem QG {b off:Nat} {v:Value} (h:bD (Rd X φ w) φ (.ptr b off) v) (n:Nat):∃ad,v=.pointer (some ad)/\bD (Rd X φ w) φ (.ptr b (off+n)) (.pointer (some (ad.add n))):=by
 cases h with
 |ptr _ _ _ ad hb h=>
   refine⟨ad,rfl,.ptr _ _ _ _ hb fun g sz hg=>?_⟩;obtain⟨rfl,h0⟩:=h g sz hg;exact⟨by rw[Addr.iq],h0⟩

theorem UR (he:oZ X φ w env a.tmps) (hg:dD c X φ w) {hi:Option Operand} {w7:Option E} {n h:Nat} (TJ:qY hi w7=true) (hh:Ai c env n n w7=some h):(Instr.sliceBounds false n n none (hi.map a.eval) none).run P w=.ok (0,h,n) w/\h<=n:=by
 cases hi<;>cases w7<;>simp only[qY] at TJ<;>try (cases TJ; done)
 all_goals simp only[Ai] at hh
 ·simp at hh;subst hh;exact⟨by simp[Instr.sliceBounds],aG _⟩
 ·obtain⟨h1,h2⟩:=ve (P:=P) (cd:=.sliceAlen) he hg TJ (aG _) hh;exact⟨by simp[Instr.sliceBounds,h1],h2⟩
theorem adk {t:TypeId} {n:Nat} {x:Operand} {y:E} {hi:Option Operand} {w7:Option E} {v:AV} {H':Heap} {fl:Fp} {call:Nat->List AV->Heap->Option (AV × Heap)} (eI:o.op=.slice t x none hi none) (hh:bO X φ w H) (he:oZ X φ w env a.tmps) (hg:dD c X φ w) (TJ:qY hi w7=true) (r:bD (Rd X φ w) φ (ev c env y) (a.eval x))
  (hk:(match P.underlying t with
  |some (.array n' e)=>decide (n=n')&&nd P e 1
  |_=>false)=true) (hs:fi c call env H (.F9 n y w7)=some (v,H',fl)):Ok P X φ w o a v H':=by
 split at hk
 case h_2=>cases hk
 rename_i n' e hu;simp only[ae,decide_eq_true_eq] at hk;obtain⟨rfl,mO⟩:=hk;unfold nd at mO;split at mO
 case h_2=>cases mO
 rename_i i NR;simp only[fi] at hs;split at hs
 case h_2=>cases hs
 rename_i m hm;obtain⟨bd,CE⟩:=UR (P:=P) he hg TJ hm;split at hs
 case h_3=>cases hs
 case h_2=>
  rename_i b off hy;split at hs
  case h_2=>cases hs
  rename_i cs hb;split at hs
  case isFalse=>cases hs
  rename_i hc;simp at hs;obtain⟨rfl,rfl,rfl⟩:=hs;rw[hy] at r;generalize MJ:a.eval x=ax at r;cases r with
  |ptr _ _ _ ad RH hp=>
    have e0:(if n=0 then ad else ad.add (0*i.size))=ad:=by
     split
     ·rfl
     ·simp[Addr.add]
    have run:(execOp a.eval o).run P w=.ok (.value (.slice (some ad) m n)) w:=by
     simp only[execOp,eI,MJ,Cr,Instr.sliceAt,Instr.sureAddr,Sem.run_bind,run_underlying hu,Result.andThen_ok,bd,ia NR,Sem.run_pure,e0,MN]
    refine Ok.quiet run ?_ hh;obtain⟨g,sz,arr,e,h1,h2,h3,h4,_⟩:=hh.cat hb fun g sz hg=>(hp g sz hg).2;refine .sl _ _ _ _ _ _ _ RH CE fun g' o0 hg=>?_;rw[h1] at hg;simp only[af,aA] at hg;obtain⟨rfl,rfl⟩:=hg;exact⟨fun _=>(hp _ _ h1).1,by omega⟩
 rename_i cs hy;split at hs
 case isFalse=>cases hs
 rename_i hc;obtain⟨MI,rfl,F1⟩:=hc;have hc:m<=cs.length/\bm (cs.take m)=true:=⟨MI,F1⟩;simp at hs;obtain⟨rfl,rfl,rfl⟩:=hs;rw[hy] at r;generalize MJ:a.eval x=ax at r;cases r with
 |de _ _ ad u FV hr=>
   have e0:(if m=0 then ad else ad.add (0*i.size))=ad:=by
    split
    ·rfl
    ·simp[Addr.add]
   have run:(execOp a.eval o).run P w=.ok (.value (.slice (some ad) m m)) w:=by
    simp only[execOp,eI,MJ,Cr,Instr.sliceAt,Instr.sureAddr,Sem.run_bind,run_underlying hu,Result.andThen_ok,bd,ia NR,Sem.run_pure,e0,MN]
   refine Ok.quiet run ?_ hh
   have get:∀{k:Nat} {c:AV},(cs.take m)[k]?=some c->cs[k]?=some c/\c.leaf=true:=by
    intro k c h;refine⟨?_,wg hc.2 k c h⟩;rw[bC] at h;split at h
    ·exact h
    ·cases h
   have one:∀{c:AV},c.leaf=true->c.cells=[c]:=by
    intro c h;cases c<;>simp[AV.leaf] at h<;>rfl
   refine .uU _ 1 _ ad m m (fun k _=>u k) (by simp; omega) (aG _) (fun c hm=>?_) (fun k j c d h1 h2=>?_) (fun k j c d h1 h2=>?_)
   ·obtain⟨k,hk⟩:=bt hm;rw[one (get hk).2]; rfl
   ·rw[one (get h1).2] at h2;cases j with
    |zero=>simp at h2; subst h2; simpa using FV k c (get h1).1
    |succ j=>simp at h2
   ·rw[one (get h1).2] at h2;cases j with
    |zero=>simp at h2; subst h2; exact hr k c (get h1).1
    |succ j=>simp at h2
theorem adb {s:TypeId} {f off:Nat} {x:Operand} {y:E} {v:AV} {H':Heap} {fl:Fp} {call:Nat->List AV->Heap->Option (AV × Heap)} (eI:o.op=.fieldAddr s x f) (hh:bO X φ w H) (r:bD (Rd X φ w) φ (ev c env y) (a.eval x))
  (hk:(match P.underlying s with
  |some (.struct fs)=>match fs[f]? with
    |some fd=>decide (fd.offset=off)&&(match P.info? fd.type with
      |some i=>decide (i.size≠0)
      |none=>false)
    |none=>false
  |_=>false)=true) (hs:fi c call env H (.Aa off y)=some (v,H',fl)):Ok P X φ w o a v H':=by
 split at hk
 case h_2=>cases hk
 rename_i fs hu;split at hk
 case h_2=>cases hk
 rename_i fd hf;simp only[ae,decide_eq_true_eq] at hk;obtain⟨IF,mO⟩:=hk;split at mO
 case h_2=>cases mO
 rename_i i hi;have hsz':¬i.size=0:=by simpa using mO
 have run:∀{ad:Addr},a.eval x=.pointer (some ad)->(execOp a.eval o).run P w=.ok (.value (.pointer (some (ad.add off)))) w:=by
  intro ad hx;simp only[execOp,eI,hx,Instr.fieldAt,Sem.run_bind,run_underlying hu,Result.andThen_ok,hf,Instr.sureAddr,Sem.run_pure,fieldPlace,ia hi,hsz',if_false,IF]
 simp only[fi] at hs;split at hs
 ·rename_i b off' hy;simp at hs;obtain⟨rfl,rfl,rfl⟩:=hs;rw[hy] at r;obtain⟨ad,h1,h2⟩:=QG r off;exact Ok.quiet (run h1) h2 hh
 ·rename_i cs hy;simp at hs;obtain⟨rfl,rfl,rfl⟩:=hs;rw[hy] at r;obtain⟨ad,h1,h2⟩:=Hf r off;exact Ok.quiet (run h1) h2 hh
 ·cases hs
theorem ada {s:TypeId} {f off:Nat} {ag:Option Nat} {x:Operand} {y:E} {v:AV} {H':Heap} {fl:Fp} {call:Nat->List AV->Heap->Option (AV × Heap)} (eI:o.op=.field s x f) (hh:bO X φ w H) (r:bD (Rd X φ w) φ (ev c env y) (a.eval x))
  (hk:(match P.underlying s with
  |some (.struct fs)=>match fs[f]? with
    |some fd=>decide (fd.offset=off)&&decide (kF P fd.type=some ag)
    |none=>false
  |_=>false)=true) (hs:fi c call env H (.TR off ag y)=some (v,H',fl)):Ok P X φ w o a v H':=by
 split at hk
 case h_2=>cases hk
 rename_i fs hu;split at hk
 case h_2=>cases hk
 rename_i fd hf;simp only[ae,decide_eq_true_eq] at hk;obtain⟨IF,zX⟩:=hk;simp only[fi] at hs;split at hs
 case h_2=>cases hs
 rename_i cs hy;split at hs
 case h_2=>cases hs
 rename_i u FV;simp at hs;obtain⟨rfl,rfl,rfl⟩:=hs;rw[hy] at r;generalize hx:a.eval x=ax at r;cases r with
 |agg _ _ vs hl hr=>
   obtain⟨v',h1,h2⟩:=QT zX hl hr FV;refine Ok.quiet ?_ h2 hh;simp only[execOp,eI,hx,Instr.field,Sem.run_bind,run_underlying hu,Result.andThen_ok,hf,asAgg,Sem.run_pure,IF,h1]
theorem O7 {t e:TypeId} {i:TypeInfo} (hu:P.underlying t=some (.slice e)) (hi:P.info? e=some i) {ad:Addr} {n cap:Nat} {k:IntKind} {j:Int} (h0:0<=j) (h1:j<(n:Int)) :
  (Instr.indexAt t (.slice (some ad) n cap) (.int k j)).run P w=.ok (.pointer (some (ad.add (j.toNat * i.size)))) w:=by
 simp[Instr.indexAt,asIntOf,run_underlying hu,h0,h1,ia hi]
theorem YH {t e:TypeId} {i:TypeInfo} {n:Nat} (hu:P.underlying t=some (.array n e)) (hi:P.info? e=some i) {ad:Addr} {k:IntKind} {j:Int} (h0:0<=j) (h1:j<(n:Int)) :
  (Instr.indexAt t (.pointer (some ad)) (.int k j)).run P w=.ok (.pointer (some (ad.add (j.toNat * i.size)))) w:=by
 simp[Instr.indexAt,asIntOf,Instr.sureAddr,run_underlying hu,h0,h1,ia hi]
theorem ac8 {t:TypeId} {k:Nat} {x xi:Operand} {y yi:E} {v:AV} {H':Heap} {fl:Fp} {call:Nat->List AV->Heap->Option (AV × Heap)} (eI:o.op=.indexAddr t x xi) (hh:bO X φ w H) (r:bD (Rd X φ w) φ (ev c env y) (a.eval x))
  (ri:bD (Rd X φ w) φ (ev c env yi) (a.eval xi)) (hk:ik P t k=true) (hs:fi c call env H (.tH k y yi)=some (v,H',fl)):Ok P X φ w o a v H':=by
 obtain⟨e,i,z,hu,NR,tr,ZW,Z2,LC,MD⟩:=iw hk;simp only[fi] at hs;split at hs
 ·rename_i k' xs hy;split at hs
  case h_2=>cases hs
  rename_i j hj;obtain⟨kk,ii,e1,e2,e3,e4,e5⟩:=vO hj;split at hs
  case isFalse=>cases hs
  rename_i tq;subst tq;split at hs
  case h_2=>cases hs
  rename_i el hel;simp at hs;obtain⟨rfl,rfl,rfl⟩:=hs;rw[e1] at ri;have WL:=gq ri;rw[hy] at r;generalize hx:a.eval x=ax at r;cases r with
  |uU _ _ _ ad n cap u hn iO Yk hur hr=>
    have oQ:=O7 (P:=P) (w:=w) hu NR (ad:=ad) (n:=n) (cap:=cap) (k:=kk) e2 (by omega);refine Ok.quiet (v':=.pointer (some (ad.add (ii.toNat * i.size)))) (by simp only[execOp,eI,hx,WL,Sem.run_bind,oQ,Result.andThen_ok,Sem.run_pure]) (.de _ _ _ (fun m=>u j m) (fun m c hc=>?_) (fun m c hc=>hr j m el c hel hc)) hh;rw[Addr.add_add,tr,<-e4];exact hur j m el c hel hc
  |j5=>simp at hel
 ·rename_i k' b off len hy;split at hs
  case h_2=>cases hs
  rename_i j hj;obtain⟨kk,ii,e1,e2,e3,e4,e5⟩:=vO hj;split at hs
  case isFalse=>cases hs
  rename_i tq;subst tq;simp at hs;obtain⟨rfl,rfl,rfl⟩:=hs;rw[e1] at ri;have WL:=gq ri;rw[hy] at r;generalize hx:a.eval x=ax at r;cases r with
  |sl _ _ _ _ _ ad cap hb hc hp=>
    have oQ:=O7 (P:=P) (w:=w) hu NR (ad:=ad) (n:=len) (cap:=cap) (k:=kk) e2 (by omega);refine Ok.quiet (v':=.pointer (some (ad.add (ii.toNat * i.size)))) (by simp only[execOp,eI,hx,WL,Sem.run_bind,oQ,Result.andThen_ok,Sem.run_pure]) (.ptr _ _ _ _ hb fun g sz hg=>?_) hh;obtain⟨q1,q2⟩:=hp g sz hg;exact⟨by rw[q1 (by omega),Addr.iq,tr,e4],by omega⟩
 ·cases hs
theorem ac7 {t:TypeId} {n k:Nat} {x xi:Operand} {y yi:E} {v:AV} {H':Heap} {fl:Fp} {call:Nat->List AV->Heap->Option (AV × Heap)} (eI:o.op=.indexAddr t x xi) (hh:bO X φ w H) (r:bD (Rd X φ w) φ (ev c env y) (a.eval x))
  (ri:bD (Rd X φ w) φ (ev c env yi) (a.eval xi)) (hk:(match P.underlying t with
  |some (.array n' e)=>decide (n=n')&&nd P e k
  |_=>false)=true) (hs:fi c call env H (.Ci n k y yi)=some (v,H',fl)):Ok P X φ w o a v H':=by
 split at hk
 case h_2=>cases hk
 rename_i n' e hu;simp only[ae,decide_eq_true_eq] at hk;obtain⟨rfl,mO⟩:=hk;unfold nd at mO;split at mO
 case h_2=>cases mO
 rename_i i hi;have tr:i.size=k:=by simpa using mO
 simp only[fi] at hs;split at hs
 case h_2=>cases hs
 rename_i j hj;obtain⟨kk,ii,e1,e2,e3,e4,e5⟩:=vO hj;rw[e1] at ri;have WL:=gq ri
 have run:∀{ad:Addr},a.eval x=.pointer (some ad)->(execOp a.eval o).run P w=.ok (.value (.pointer (some (ad.add (j*k))))) w:=by
  intro ad hx;have oQ:=YH (P:=P) (w:=w) hu hi (ad:=ad) (k:=kk) e2 e3;simp only[execOp,eI,hx,WL,Sem.run_bind,oQ,Result.andThen_ok,Sem.run_pure,tr,e4]
 split at hs
 ·rename_i b off hy;simp at hs;obtain⟨rfl,rfl,rfl⟩:=hs;rw[hy] at r;obtain⟨ad,h1,h2⟩:=QG r (j*k);exact Ok.quiet (run h1) h2 hh
 ·rename_i cs hy;simp at hs;obtain⟨rfl,rfl,rfl⟩:=hs;rw[hy] at r;obtain⟨ad,h1,h2⟩:=Hf r (j*k);exact Ok.quiet (run h1) h2 hh
 ·cases hs
theorem afo {t:TypeId} {n k:Nat} {ag:Option Nat} {x xi:Operand} {y yi:E} {v:AV} {H':Heap} {fl:Fp} {call:Nat->List AV->Heap->Option (AV × Heap)} (eI:o.op=.index t x xi) (hh:bO X φ w H) (r:bD (Rd X φ w) φ (ev c env y) (a.eval x))
  (ri:bD (Rd X φ w) φ (ev c env yi) (a.eval xi)) (hk:(match P.underlying t with
  |some (.array n' e)=>decide (n=n')&&nd P e k&&decide (kF P e=some ag)
  |_=>false)=true) (hs:fi c call env H (.ix n k ag y yi)=some (v,H',fl)):Ok P X φ w o a v H':=by
 split at hk
 case h_2=>cases hk
 rename_i n' e hu;simp only[ae,decide_eq_true_eq] at hk;obtain⟨⟨rfl,mO⟩,zX⟩:=hk;unfold nd at mO;split at mO
 case h_2=>cases mO
 rename_i i hi;have tr:i.size=k:=by simpa using mO
 simp only[fi] at hs;split at hs
 case h_2=>cases hs
 rename_i j hj;obtain⟨kk,ii,e1,e2,e3,e4,e5⟩:=vO hj;rw[e1] at ri;have WL:=gq ri;split at hs
 case h_2=>cases hs
 rename_i cs hy;split at hs
 case h_2=>cases hs
 rename_i u FV;simp at hs;obtain⟨rfl,rfl,rfl⟩:=hs;rw[hy] at r;generalize hx:a.eval x=ax at r;cases r with
 |agg _ _ vs hl hr=>
   obtain⟨v',h1,h2⟩:=QT zX hl hr FV;refine Ok.quiet ?_ h2 hh;rw[e4] at h1;simp only[execOp,eI,hx,WL,Instr.index,asIntOf,Sem.run_bind,Sem.run_pure,run_underlying hu,Result.andThen_ok,e2,e3,and_self,if_true,ia hi,tr,h1]
theorem ade {x:Operand} {i:Nat} {vs:List AV} {v:AV} (eI:o.op=.extract x i) (hh:bO X φ w H) (r:bD (Rd X φ w) φ (.dA vs) (a.eval x)) (hv:vs[i]?=some v):Ok P X φ w o a v H:=by
 generalize hx:a.eval x=ax at r;cases r with
 |dA _ _ us hl hr=>
   obtain⟨u,hu⟩:=bP (l:=us) (i:=i) (by have:=aj hv; omega);exact Ok.quiet (by simp only[execOp,eI,hx,Instr.extract,hu,Sem.run_bind,Sem.run_pure,Result.andThen_ok]) (hr i v u hv hu) hh
theorem VP {x:Operand} {y:E} {v:AV} {H':Heap} {fl:Fp} {call:Nat->List AV->Heap->Option (AV × Heap)} (eI:o.op=.nilCheck x) (hh:bO X φ w H) (r:bD (Rd X φ w) φ (ev c env y) (a.eval x))
  (hs:fi c call env H (.mA y)=some (v,H',fl)):Ok P X φ w o a v H':=by
 simp only[fi] at hs;split at hs
 ·rename_i b off hy;simp at hs;obtain⟨rfl,rfl,rfl⟩:=hs;rw[hy] at r;generalize hx:a.eval x=ax at r;have r':=r;cases r;exact Ok.quiet (by simp only[execOp,eI,hx,Sem.run_pure]) r' hh
 ·rename_i cs hy;simp at hs;obtain⟨rfl,rfl,rfl⟩:=hs;rw[hy] at r;generalize hx:a.eval x=ax at r;have r':=r;cases r;exact Ok.quiet (by simp only[execOp,eI,hx,Sem.run_pure]) r' hh
 ·rename_i f as bs hy;simp at hs;obtain⟨rfl,rfl,rfl⟩:=hs;rw[hy] at r;generalize hx:a.eval x=ax at r;have r':=r;cases r;exact Ok.quiet (by simp only[execOp,eI,hx,Sem.run_pure]) r' hh
 ·cases hs
theorem ac4 {ca:Call} {x:Operand} {t:TypeId} {y:E} {v:AV} {H':Heap} {fl:Fp} {call:Nat->List AV->Heap->Option (AV × Heap)} (eI:o.op=.call ca) (BT:ca.callee=.builtin .len) (mE:ca.args=#[x]) (CD:ca.argTypes=#[t]) (hh:bO X φ w H)
  (r:bD (Rd X φ w) φ (ev c env y) (a.eval x)) (qe:isSlice P t=true) (hs:fi c call env H (.len y)=some (v,H',fl)):Ok P X φ w o a v H':=by
 unfold isSlice at qe;split at qe
 case h_2=>cases qe
 rename_i e hu
 have run:∀{ad:Option Addr} {n cap:Nat},a.eval x=.slice ad n cap->(execOp a.eval o).run P w=.ok (.value (.int .i64 n)) w:=by
  intro ad n cap hx;simp[execOp,eI,resolve,BT,mE,CD,invoke,builtin,hx,Builtin.len_,run_underlying hu,goInt]
 simp only[fi] at hs;split at hs
 case h_2=>cases hs
 rename_i n hn;simp at hs;obtain⟨rfl,rfl,rfl⟩:=hs;generalize hy:ev c env y=yv at r hn;generalize hx:a.eval x=ax at r;cases yv<;>simp only[Wp,af] at hn<;>try (cases hn; done)
 ·subst hn;cases r;exact Ok.quiet (run hx) (.int _ _ _) hh
 ·cases r with
  |uU _ _ _ ad m cap u hm=>
    subst hm; subst hn;exact Ok.quiet (run hx) (.int _ _ _) hh
  |j5=>simp at hn; subst hn; exact Ok.quiet (run hx) (.int _ _ _) hh
 ·subst hn;cases r;exact Ok.quiet (run hx) (.int _ _ _) hh
theorem JQ (mx:Bool):∀(xs:List AV) (vs:List Value) (k:IntKind) (n:Int) (r:AV),yz mx (.int k n) xs=some r->xs.length=vs.length->(∀(i:Nat) (c:AV) (v:Value),xs[i]?=some c->vs[i]?=some v->bD (Rd X φ w) φ c v) ->
  ∃ v,(vs.foldlM (if mx then Builtin.max2 else Builtin.min2) (.int k n)).run P w=.ok v w/\∀ R ψ,bD R ψ r v
 |[],[],k,n,r,h,_,_=>by simp[yz] at h; subst h; exact⟨_,rfl,fun _ _=>.int _ _ _⟩
 |[],_::_,_,_,_,_,hl,_=>by simp at hl
 |_::_,[],_,_,_,_,hl,_=>by simp at hl
 |x::xs,v::vs,k,n,r,h,hl,hr=>by
   cases x<;>simp only[yz] at h<;>try (cases h; done)
   rename_i k' m;obtain rfl:=gq (hr 0 _ v rfl rfl);obtain⟨v',h1,h2⟩:=JQ mx xs vs k _ r h (by simpa using hl) (fun i c u hc hu=>hr (i+1) c u (by simpa using hc) (by simpa using hu));refine⟨v',?_,h2⟩;cases mx
   ·simp only[bk,if_false] at h1 ⊢;simp only[List.foldlM_cons,Builtin.min2,Sem.run_bind,Sem.run_pure,Result.andThen_ok];exact h1
   ·simp only[if_true] at h1 ⊢;simp only[List.foldlM_cons,Builtin.max2,Sem.run_bind,Sem.run_pure,Result.andThen_ok];exact h1
theorem VS {mx:Bool} {ca:Call} {ys:List E} {v:AV} (eI:o.op=.call ca) (BT:ca.callee=.builtin (if mx then .max else .min)) (hh:bO X φ w H) (he:oZ X φ w env a.tmps) (hg:dD c X φ w)
  (mE:iy ca.args.toList ys=true) (hm:xy mx (CH c env ys)=some v):Ok P X φ w o a v H:=by
 obtain⟨hl,hr⟩:=nH he hg mE;generalize hxs:CH c env ys=xs at hm hl hr;have Js:(ca.args.map a.eval).toList=ca.args.toList.map a.eval:=by simp
 cases xs with
 |nil=>simp[xy] at hm
 |cons x xs=>
   cases x<;>simp only[xy] at hm<;>try (cases hm; done)
   rename_i k n;cases hav:ca.args.toList.map a.eval with
   |nil=>have:=congrArg List.length hav; simp at this hl; rw[this] at hl; simp at hl
   |cons u us=>
     rw[hav] at hr;obtain rfl:=gq (hr 0 _ u rfl rfl);obtain⟨v',h1,h2⟩:=JQ (P:=P) mx xs us k n v hm (by have:=congrArg List.length hav; simp at this hl; omega) (fun i c w' hc hw=>hr (i+1) c w' (by simpa using hc) (by simpa using hw));refine Ok.quiet (v':=v') ?_ (h2 _ _) hh;cases mx
     ·simp only[bk,if_false] at h1 BT;simp only[execOp,eI,resolve,BT,invoke,builtin,Builtin.min_,Js,hav,Sem.run_bind,Sem.run_pure,Result.andThen_ok,h1]
     ·simp only[if_true] at h1 BT;simp only[execOp,eI,resolve,BT,invoke,builtin,Builtin.max_,Js,hav,Sem.run_bind,Sem.run_pure,Result.andThen_ok,h1]
theorem ac6 {t:TypeId} {s:ByteArray} {tab:List Nat} {xi:Operand} {yi:E} {v:AV} {H':Heap} {fl:Fp} {call:Nat->List AV->Heap->Option (AV × Heap)} (eI:o.op=.index t (.const (.string s)) xi) (hh:bO X φ w H)
  (ri:bD (Rd X φ w) φ (ev c env yi) (a.eval xi)) (hu:(match P.underlying t with
  |some .string=>true
  |_=>false)=true) (htab:s.data.toList.map (·.toNat)=tab) (hs:fi c call env H (.Ty tab yi)=some (v,H',fl)):Ok P X φ w o a v H':=by
 split at hu
 case h_2=>cases hu
 rename_i hu0;clear hu;simp only[fi] at hs;split at hs
 case h_2=>cases hs
 rename_i j hj;obtain⟨kk,ii,e1,e2,e3,e4,e5⟩:=vO hj;rw[e1] at ri;have WL:=gq ri;split at hs
 case h_2=>cases hs
 rename_i u FV;simp at hs;obtain⟨rfl,rfl,rfl⟩:=hs;subst htab
 have bY:j<s.size:=by
  have h1:s.data.size=s.size:=rfl;have h2:=e5;simp at h2;omega
 have hsj:s[j]?=some s[j]:=getElem?_pos s j bY
 have ZM:s[j].toNat=u:=by
  rw[cF] at FV
  have:s.data.toList[j]?=some s[j]:=by
   rw[eF];exact j9 bY
  rw[this] at FV;simpa using FV
 refine Ok.quiet (v':=.int .u8 u) ?_ (.int _ _ _) hh;subst e4;have dB:a.eval (.const (.string s))=.string s:=rfl;simp only[execOp,eI,dB,WL,Instr.index,asIntOf,Sem.run_bind,Sem.run_pure,run_underlying hu0,Result.andThen_ok,e2,if_true,hsj,ZM]
theorem adh {ca:Call} {x:Operand} {t:TypeId} {k:Nat} {zs:List AV} {y:E} {v:AV} {H':Heap} {fl:Fp} {call:Nat->List AV->Heap->Option (AV × Heap)} (eI:o.op=.call ca) (BT:ca.callee=.builtin .clear) (mE:ca.args=#[x]) (CD:ca.argTypes=#[t]) (hh:bO X φ w H)
  (r:bD (Rd X φ w) φ (ev c env y) (a.eval x)) (hk:ik P t k=true) (hz:gN P t zs=true) (hs:fi c call env H (.RZ k zs y)=some (v,H',fl)):Ok P X φ w o a v H':=by
 obtain⟨e,i,z,hu,hi,tr,ZW,Z2,LC,MD⟩:=iw hk;simp only[gN,hu] at hz;obtain⟨i',z',w7,FT,dB,wZ⟩:=sx (X:=X) (φ:=φ) (w:=w) hz;rw[hi] at w7;simp at w7;subst w7;rw[LC] at FT;simp at FT;subst FT;have A9:zs.length=k:=by have:=dB.1; simp at this; omega
 have YK:∀{ad:Option Addr} {cap:Nat},a.eval x=.slice ad 0 cap->(execOp a.eval o).run P w=.ok (.value (.tuple #[])) w:=by
  intro ad cap hx;cases ad<;>simp[execOp,eI,resolve,BT,mE,CD,invoke,builtin,hx,Builtin.clear_,run_underlying hu]
 simp only[fi] at hs;split at hs
 ·rename_i hy;simp at hs;obtain⟨rfl,rfl,rfl⟩:=hs;rw[hy] at r;generalize hx:a.eval x=ax at r;cases r;exact Ok.quiet (YK hx) (.undef _) hh
 ·rename_i k' hy;simp at hs;obtain⟨rfl,rfl,rfl⟩:=hs;rw[hy] at r;generalize hx:a.eval x=ax at r;cases r with
  |uU _ _ _ ad n cap u hn=>simp at hn; subst hn; exact Ok.quiet (YK hx) (.undef _) hh
  |j5=>exact Ok.quiet (YK hx) (.undef _) hh
 ·rename_i k' b off len hy;rw[hy] at r;split at hs
  ·rename_i h0;subst h0;simp at hs;obtain⟨rfl,rfl,rfl⟩:=hs;generalize hx:a.eval x=ax at r;cases r;exact Ok.quiet (YK hx) (.undef _) hh
  ·rename_i h0;split at hs
   case h_2=>cases hs
   rename_i cs hb;split at hs
   case isFalse=>cases hs
   rename_i hc;obtain⟨rfl,oS⟩:=hc;simp at hs;obtain⟨rfl,rfl,rfl⟩:=hs;generalize hx:a.eval x=ax at r;cases r with
   |sl _ _ _ _ _ ad cap RH iO hp=>
     obtain⟨g,sz,arr,e2,h1,h2,h3,h4,h5,h6⟩:=hh.cat hb fun g sz hg=>by have:=(hp g sz hg).2; omega
     have afY:=(hp g sz h1).2;have afL:0<cap:=by omega
     obtain rfl:=(hp g sz h1).1 afL
     have rp:bD (Rd X φ w) φ (.ptr b off) (.pointer (some ⟨g,off,none⟩)):=.ptr _ _ _ _ RH fun g' o0 NS=>by
      rw[h1] at NS;simp at NS;obtain⟨rfl,rfl⟩:=NS;exact⟨rfl,by omega⟩
     have hcz:Cs X φ w (rep zs len) (Builtin.zeroCells z.cells len).toList:=by
      refine⟨by rw[kU,A9]; simp[Builtin.zeroCells,MD],fun j c v hc hv=>?_⟩;obtain⟨u,q1,q2⟩:=Ni dB (n:=len) (m:=len*k') (by rw[MD]; omega) (arr:=Builtin.zeroCells z.cells len) (by simp[Builtin.zeroCells,MD]) (fun i hi=>by simp[Builtin.zeroCells,MD,hi]) j c hc;rw[eF,q1] at hv;simp at hv;subst hv;exact q2
     obtain⟨g',w',e1,FW,q1,q2⟩:=CR (P:=P) hh hb rp hcz (hcz.rD (UZ wZ len)) (by rw[kU,A9]; exact oS);simp at e1;subst e1;refine Ok.value (v':=.tuple #[]) ?_ (.undef _) q1 q2;cases len with
     |zero=>exact absurd rfl h0
     |succ m=>simp[execOp,eI,resolve,BT,mE,CD,invoke,builtin,hx,Builtin.clear_,run_underlying hu,qB hi LC,FW]
 ·cases hs
end
end Go.Am

/- append; calls. -/
namespace Go.Am
section
variable {P:Program} {c:dM} {X:Nat->Prop} {φ:cX} {w:World} {env:Env} {H:Heap} {a:Act} {o:Oper}

theorem gX {k:Nat}:∀{xs:List AV},(∀x∈xs,x.cells.length=k)->(az xs).length=xs.length*k /\
  ∀ (p:Nat) (c:AV),(az xs)[p]?=some c->∃i x j,xs[i]?=some x/\x.cells[j]?=some c/\p=i*k+j
 |[],_=>⟨by simp[az],fun p c h=>by simp[az] at h⟩
 |x::r,h=>by
   obtain⟨hl,hm⟩:=gX (xs:=r) fun y hy=>h y (by simp[hy]);have hx:=h x (by simp);refine⟨by simp[az,hl,hx,cj]; omega,fun p c hc=>?_⟩;rw[az] at hc;by_cases hp:p<x.cells.length
   ·rw[au hp] at hc;exact⟨0,x,p,rfl,hc,by omega⟩
   ·rw[aJ (by omega)] at hc;obtain⟨i,y,j,h1,h2,h3⟩:=hm _ c hc;exact⟨i+1,y,j,by simpa using h1,h2,by rw[cj]; omega⟩
theorem xK (hh:bO X φ w H) {k m:Nat} {x:AV} {news:List AV} {v:Value} (h:iz H k x=some (news,m)) (r:bD (Rd X φ w) φ x v) :
  ∃ ao cap vs,v=.slice ao m cap/\vs.length=m*k/\Cs X φ w news vs/\(∀ad,ao=some ad->∀(j:Nat) (u:Value),vs[j]?=some u->w.cell? (ad.add j)=some u)/\(ao=none->m=0):=by
 have fin:∀{ad:Addr} {cap:Nat} {cs:List AV},Jy X φ w cs ad->cs.length=m*k->cs=news->v=.slice (some ad) m cap ->
   ∃ ao cap vs,v=.slice ao m cap/\vs.length=m*k/\Cs X φ w news vs/\(∀ad,ao=some ad->∀(j:Nat) (u:Value),vs[j]?=some u->w.cell? (ad.add j)=some u)/\(ao=none->m=0):=by
  intro ad cap cs hp hl hn hv;obtain⟨vs,h1,h2,h3⟩:=hp.values cs.length (aG _);subst hn;refine⟨some ad,cap,vs,hv,by omega,⟨h1.symm,fun i c u hc hu=>h3 i c u (by simpa using hc) hu⟩,fun ad' h=>?_,fun h=>by cases h⟩;cases h;exact h2
 cases x<;>simp only[iz] at h<;>try (cases h; done)
 ·simp at h;obtain⟨rfl,rfl⟩:=h;cases r;exact⟨none,0,[],rfl,by simp,⟨rfl,fun i c u hc=>by simp at hc⟩,(fun ad h=>by cases h),fun _=>rfl⟩
 ·rename_i k' xs;split at h
  ·rename_i hk;subst hk;simp at h;obtain⟨rfl,rfl⟩:=h;cases r with
   |uU _ _ _ ad n cap u hn iO Yk hur hr=>
     obtain⟨hl,hm⟩:=gX Yk;subst hn;refine fin (ad:=ad) (cap:=cap) (fun p c hc=>?_) hl rfl rfl;obtain⟨i,y,j,h1,h2,rfl⟩:=hm p c hc;exact⟨u i j,(hur i j y c h1 h2).2.2,(hr i j y c h1 h2).GR φ⟩
   |j5=>exact⟨none,0,[],rfl,by simp,⟨rfl,fun i c u hc=>by simp[az] at hc⟩,(fun ad h=>by cases h),fun _=>rfl⟩
  ·cases h
 ·rename_i k' b off len;split at h
  case h_2=>cases h
  rename_i cs dB;split at h
  case isFalse=>cases h
  rename_i hc;obtain⟨rfl,oS⟩:=hc;simp at h;obtain⟨rfl,rfl⟩:=h;cases r with
  |sl _ _ _ _ _ ad cap hb hc hp=>
    obtain⟨g,sz,arr,e,h1,h2,h3,h4,h5,h6⟩:=hh.cat dB fun g sz hg=>by have:=(hp g sz hg).2; omega
    by_cases h0:len=0
    ·subst h0;exact⟨some ad,cap,[],rfl,by simp,⟨by simp,fun i c u hc=>by simp at hc⟩,(fun _ _ j u hu=>by simp at hu),(fun h=>by cases h)⟩
    ·obtain rfl:=(hp g sz h1).1 (by omega);refine fin (ad:=⟨g,off,none⟩) (cap:=cap) (cs:=(cs.drop off).take (len*k')) (fun p c hc=>?_) (by simp; omega) rfl rfl;rw[bC] at hc;split at hc
     ·rw[aO] at hc;obtain⟨u,hu,r⟩:=h6 _ _ hc;exact⟨u,by rw[Addr.iq,gP h2]; exact hu,r⟩
     ·cases hc

theorem Ay {t ty e e2:TypeId} {i:TypeInfo} (ht:P.underlying t=some (.slice e)) (hi:P.info? e=some i)
  {g Nd sCap:Nat} {cur:Array Value} (hg:w.heap[g]?=some (.cells cur e2 (0,0)))
  {a:Addr} {m c:Nat} {news:List Value} (hl:news.length=m*i.size) (afD:∀(j:Nat) (u:Value),news[j]?=some u->w.cell? (a.add j)=some u) (h1:∀u∈news,u.oneCell'=true)
  (abY:Nd+m<=sCap) (oS:Nd*i.size+news.length<=cur.size) :
  (Builtin.append_ #[t,t] ty #[.slice (some ⟨g,0,none⟩) Nd sCap,.slice (some a) m c]).run P w =
   .ok (.slice (some ⟨g,0,none⟩) (Nd+m) sCap) (w.setRow g (cur.toList.take (Nd*i.size)++news++cur.toList.drop (Nd*i.size+news.length)).toArray):=by
 have hf:=run_firstCells_some (P:=P) w i.size m a m c news hl afD;have FW:=run_storeCells_at P g (Nd*i.size) e2 news 0 cur w hg (by simpa using oS) h1;simp only[Cb] at FW;simp[Builtin.append_,run_underlying ht,sizeOf,typeInfo,hi,Builtin.lenOf,abY,hf,Addr.add_lit,FW]
theorem pg {t ty e:TypeId} {i:TypeInfo} (hu:P.underlying t=some (.slice e)) (hi:P.info? e=some i) {base ao:Option Addr} {n cap c:Nat} (h:n<=cap) :
  (Builtin.append_ #[t,t] ty #[.slice base n cap,.slice ao 0 c]).run P w=.ok (.slice base n cap) w:=by
 cases base<;>cases ao<;>simp[Builtin.append_,run_underlying hu,sizeOf,vd hi,Builtin.lenOf,h,Builtin.firstCells,loadCells,loadCellsFrom,storeCells]
theorem adl {ca:Call} {x y:Operand} {t:TypeId} {k:Nat} {x' y':E} {v:AV} {H':Heap} {fl:Fp} {call:Nat->List AV->Heap->Option (AV × Heap)} (eI:o.op=.call ca) (BT:ca.callee=.builtin .append) (mE:ca.args=#[x,y]) (CD:ca.argTypes=#[t,t])
  (hh:bO X φ w H) (rx:bD (Rd X φ w) φ (ev c env x') (a.eval x)) (ry:bD (Rd X φ w) φ (ev c env y') (a.eval y)) (hk:ik P t k=true) (hs:fi c call env H (.app k x' y')=some (v,H',fl)):Ok P X φ w o a v H':=by
 obtain⟨e,i,z,hu,hi,tr,ZW,Z2,LC,MD⟩:=iw hk
 have fin:∀{p q v':Value} {w':World} {φ':cX},a.eval x=p->a.eval y=q->(Builtin.append_ #[t,t] o.type #[p,q]).run P w=.ok v' w'->bD (Rd X φ' w') φ' v v'->bO X φ' w' H'->eT φ w φ' w'->Ok P X φ w o a v H':=by
  intro p q v' w' φ' hp hq hr r h k;refine Ok.value ?_ r h k;simp only[execOp,eI,resolve,BT,mE,CD,invoke,builtin,List.map_toArray,eJ,List.map_nil,hp,hq,Sem.run_bind,Sem.run_pure,Result.andThen_ok,hr]
 simp only[fi] at hs;split at hs
 case h_2=>cases hs
 rename_i news m hsc;obtain⟨ao,OA,vs,hy,WN,IK,hvc,RD⟩:=xK hh hsc ry;have hL:p7=4294967296:=rfl;split at hs
 ·rename_i FU;rw[FU] at rx;generalize hx:a.eval x=ax at rx;cases rx;by_cases hm:m=0
  ·subst hm;simp at hs;obtain⟨rfl,rfl,rfl⟩:=hs;exact fin hx hy (pg hu hi (aG 0)) (.di _) hh (.refl _ _)
  ·rw[if_neg hm] at hs;split at hs
   case isFalse=>cases hs
   rename_i hc;obtain⟨IH,wZ⟩:=hc;simp at hs;obtain⟨rfl,rfl,rfl⟩:=hs;cases ao with
   |none=>exact absurd (RD rfl) hm
   |some ad=>
     have hmb:m*i.bytes<=4294967296*1024:=Nat.mul_le_mul (by omega) Z2;have hr:=run_append_nil (P:=P) w t o.type e i z hu hi LC ad m OA vs (by rw[WN,tr]) (hvc ad rfl) (by omega) (by omega) (by omega);have hge:=grownCap_ge w m 0 e
     have mO:(vs.toArray++Builtin.zeroCells z.cells (grownCap w m 0 e-m)).size=grownCap w m 0 e*k:=by
      simp only[Un,ss,size_zeroCells,MD,WN,<-cj]; congr 1; omega
     obtain⟨q1,q2⟩:=tj hh (w1:=w.drew) (arr:=vs.toArray++Builtin.zeroCells z.cells (grownCap w m 0 e-m)) (e:=e) (cs:=news) rfl rfl rfl rfl
      (by rw[mO,IK.1,WN]; exact bK _ hge)
      (IK.at fun j u hj=>by rw[rU (by simpa using aj hj)]; simpa using hj)
     exact fin hx hy hr (Is hh.len hge (by rw[mO]; exact aG _)) q1 q2
 ·rename_i k' b n FU;split at hs
  case h_2=>cases hs
  rename_i cs dB;split at hs
  case isFalse=>cases hs
  rename_i hc;obtain⟨rfl,hnk,IH,wZ⟩:=hc;simp at hs;obtain⟨rfl,rfl,rfl⟩:=hs;rw[FU] at rx;generalize hx:a.eval x=ax at rx;cases rx with
  |sl _ _ _ _ _ ad cap hb iO hp=>
    obtain⟨g,sz,arr,e2,jT,hg,mO,hle,hX,hm6⟩:=hh.cat dB fun g sz hg=>by have:=(hp g sz hg).2; omega
    subst mO;have mO:=Eq.refl (arr.size+1);obtain⟨LK,abY⟩:=hp g _ jT
    have hold:Cs X φ w (cs.take (n*k')) (arr.toList.take (n*k')):=by
     refine⟨by simp; omega,fun j x u hx hu=>?_⟩;have hj:j<n*k':=by have:=aj hx; simp at this; omega
     rw[aL hj] at hx hu;obtain⟨u',h1,h2⟩:=hm6 j x hx;simp at hu;rw[h1] at hu;simp at hu;subst hu;exact h2
    have j8:=hold.append IK;have FG:(arr.toList.take (n*k')).length=n*k':=by simp; omega
    have hlen:(n:Nat)*k'+m*k'=(n+m)*k':=by rw[cj]
    by_cases hm:m=0
    ·subst hm;have Js:vs=[]:=dH (by omega);subst Js
     obtain⟨q1,q2⟩:=hh.move (cs':=cs.take (n*k')++news) (arr':=arr) (w':=w) jT hg mO rfl (by rw[setRow_self w g arr e2 _ hg]) hX
      (by rw[j8.1]; simp; omega) (j8.at fun j u hj=>by
       rw[List.append_nil] at hj;have Ut:j<n*k':=by have:=aj hj; omega
       rw[aL Ut] at hj;simpa using hj)
     refine fin hx hy (pg hu hi iO) ?_ q1 q2;refine .sl _ _ _ _ _ _ _ (by simp[hh.len]) iO fun g' o0 NS=>?_;rw[aJ (by simp[hh.len])] at NS;simp[hh.len] at NS;obtain⟨rfl,rfl⟩:=NS;exact⟨LK,by omega⟩
    ·cases ao with
     |none=>exact absurd (RD rfl) hm
     |some ady=>
       have h1c:=IK.rD wZ;by_cases NM:n+m<=cap
       ·obtain rfl:=LK (by omega)
        have oS:n*i.size+vs.length<=arr.size:=by
         rw[tr,WN,hlen];have:=bK k' NM;omega
        have hr:=Ay (P:=P) (ty:=o.type) (c:=OA) hu hi hg (by rw[WN,tr]) (hvc ady rfl) h1c NM oS;rw[tr] at hr oS
        have zT:(arr.toList.take (n*k')++vs++arr.toList.drop (n*k'+vs.length)).toArray.size=arr.size:=by
         simp only[ss,bw,bg,dR,qo]; omega
        obtain⟨q1,q2⟩:=hh.move (cs':=cs.take (n*k')++news) (arr':=(arr.toList.take (n*k')++vs++arr.toList.drop (n*k'+vs.length)).toArray) jT hg mO zT rfl hX
         (by rw[j8.1,zT]; simp; omega) (j8.at fun j u hj=>by
          simp only[wx];rw[au (aj hj)];exact hj)
        refine fin hx hy hr (Re (by simp[hh.len]) NM (by omega)) q1 q2
       ·have holds:∀(j:Nat) (u:Value),(arr.toList.take (n*k'))[j]?=some u->w.cell? (ad.add j)=some u:=by
         intro j u hj;have Ut:j<n*k':=by have:=aj hj; omega
         have hn0:0<n:=by
          rcases Nat.eq_zero_or_pos n with h|h
          ·subst h; simp at Ut
          ·exact h
         obtain rfl:=LK (by omega);rw[Addr.iq,gP hg];rw[aL Ut] at hj;simpa using hj
        have hmb:(n+m)*i.bytes<=4294967296*1024:=Nat.mul_le_mul (by omega) Z2
        have hr:=run_append_grow (P:=P) w t o.type e i z hu hi LC ad n cap (arr.toList.take (n*k')) (by rw[FG,tr]) holds ady m OA vs (by rw[WN,tr]) (hvc ady rfl) (by omega) (by omega)
         (growslice_fits (by omega) (by omega))
        have hge:=grownCap_ge w (n+m) cap e
        have hsz2:((arr.toList.take (n*k')).toArray++vs.toArray++Builtin.zeroCells z.cells (grownCap w (n+m) cap e-(n+m))).size=grownCap w (n+m) cap e*k':=by
         simp only[Un,ss,size_zeroCells,MD,WN,FG,<-cj]; congr 1; omega
        obtain⟨k1,k2⟩:=hh.Ww b;have G6:Cs X (φ.set b none) w (cs.take (n*k')++news) (arr.toList.take (n*k')++vs):=⟨j8.1,fun j x u hx hu=>k2.rep (j8.2 j x u hx hu)⟩
        obtain⟨q1,q2⟩:=tj k1 (w1:=w.drew) (arr:=(arr.toList.take (n*k')).toArray++vs.toArray++Builtin.zeroCells z.cells (grownCap w (n+m) cap e-(n+m))) (e:=e) (cs:=cs.take (n*k')++news) rfl rfl rfl rfl
         (by rw[hsz2,j8.1,bw,FG,WN,hlen]; exact bK _ hge)
         (G6.at fun j u hj=>by
          rw[rU (by simpa using aj hj)];have:((arr.toList.take (n*k')).toArray++vs.toArray)=(arr.toList.take (n*k')++vs).toArray:=by simp
          rw[this];simpa using hj)
        refine fin hx hy hr ?_ q1 (k2.trans q2);exact Re (by simp[hh.len]) hge (by rw[hsz2]; exact aG _)
 ·cases hs

theorem Za {ca:Call} {x y:Operand} {t t':TypeId} {k:Nat} {x' y':E} {v:AV} {H':Heap} {fl:Fp} {call:Nat->List AV->Heap->Option (AV × Heap)} (eI:o.op=.call ca) (BT:ca.callee=.builtin .copy) (mE:ca.args=#[x,y]) (CD:ca.argTypes=#[t,t'])
  (hh:bO X φ w H) (rx:bD (Rd X φ w) φ (ev c env x') (a.eval x)) (ry:bD (Rd X φ w) φ (ev c env y') (a.eval y)) (hk:ik P t k=true) (hs:fi c call env H (.copy k x' y')=some (v,H',fl)):Ok P X φ w o a v H':=by
 obtain⟨e,i,z,hu,hi,tr,ZW,Z2,LC,MD⟩:=iw hk
 have fin:∀{p q v':Value} {w':World} {φ':cX},a.eval x=p->a.eval y=q->(Builtin.copy_ #[t,t'] o.type #[p,q]).run P w=.ok v' w'->bD (Rd X φ' w') φ' v v'->bO X φ' w' H'->eT φ w φ' w'->Ok P X φ w o a v H':=by
  intro p q v' w' φ' hp hq hr r h k;refine Ok.value ?_ r h k;simp only[execOp,eI,resolve,BT,mE,CD,invoke,builtin,List.map_toArray,eJ,List.map_nil,hp,hq,Sem.run_bind,Sem.run_pure,Result.andThen_ok,hr]
 simp only[fi] at hs;split at hs
 case h_2=>cases hs
 rename_i news m hsc;obtain⟨ao,OA,vs,hy,WN,IK,hvc,RD⟩:=xK hh hsc ry
 have zero:∀{base:Option Addr} {n cap:Nat},Nat.min m n=0->(Builtin.copy_ #[t,t'] o.type #[.slice base n cap,.slice ao m OA]).run P w=.ok (.int .i64 0) w:=by
  intro base n cap h0;cases base<;>cases ao<;>simp[Builtin.copy_,run_underlying hu,Builtin.lenOf,sizeOf,vd hi,h0,Builtin.firstCells,loadCells,loadCellsFrom,storeCells,goInt]
 split at hs
 ·rename_i FU;rw[FU] at rx;generalize hx:a.eval x=ax at rx;cases rx;simp at hs;obtain⟨rfl,rfl,rfl⟩:=hs;exact fin hx hy (zero (Nat.min_zero m)) (.int _ _ _) hh (.refl _ _)
 ·rename_i k' b off n FU;split at hs
  case h_2=>cases hs
  rename_i cs dB;split at hs
  case isFalse=>cases hs
  rename_i hc;obtain⟨rfl,oS,wZ⟩:=hc;simp only[af,aA] at hs;obtain⟨rfl,rfl,rfl⟩:=hs;rw[FU] at rx;generalize hx:a.eval x=ax at rx;cases rx with
  |sl _ _ _ _ _ ad cap hb iO hp=>
    obtain⟨g,sz,arr,e2,jT,hg,mO,hle,hX,hm6⟩:=hh.cat dB fun g sz hg=>by have:=(hp g sz hg).2; omega
    by_cases h0:min m n=0
    ·have e0:H.set b (some (iX cs off (news.take (min m n*k'))))=H:=by
      have e1:iX cs off (news.take (min m n*k'))=cs:=by rw[h0]; simp[iX]
      rw[e1]
      have iU:H[b]?=some (some cs):=by
       unfold aN at dB;split at dB
       ·rename_i q hq;cases dB;exact hq
       ·cases dB
      apply dq;intro j;rw[aQ];split
      ·rename_i ej;subst ej;rw[iU];simp[aj iU]
      ·rfl
     have h0':Nat.min m n=0:=h0;exact fin hx hy (zero h0') (by rw[h0]; exact .int _ _ _) (by rw[e0]; exact hh) (.refl _ _)
    ·obtain rfl:=(hp g sz jT).1 (by omega);cases ao with
     |none=>exact absurd (RD rfl) (by omega)
     |some ady=>
       have rp:bD (Rd X φ w) φ (.ptr b off) (.pointer (some ⟨g,off,none⟩)):=.ptr _ _ _ _ hb fun g' o0 NS=>by
        rw[jT] at NS;simp at NS;obtain⟨rfl,rfl⟩:=NS;exact⟨rfl,by omega⟩
       have hle2:min m n*k'<=m*k':=bK _ (Nat.min_le_left _ _);have hle3:min m n*k'<=n*k':=bK _ (Nat.min_le_right _ _)
       have hcz:Cs X φ w (news.take (min m n*k')) (vs.take (min m n*k')):=by
        refine⟨by simp[IK.1],fun j d u hd hu=>?_⟩;have hj:j<min m n*k':=by have:=aj hd; rw[bg] at this; omega
        rw[aL hj] at hd hu;exact IK.2 j d u hd hu
       have hnl:news.length=m*k':=by rw[IK.1,WN]
       obtain⟨g',w',e1,FW,q1,q2⟩:=CR (P:=P) hh dB rp hcz (fun u hu=>IK.rD wZ u (List.mem_of_mem_take hu)) (by rw[bg]; omega);simp at e1;subst e1
       have hf:=run_firstCells_some (P:=P) w i.size (min m n) ady m OA (vs.take (min m n*k')) (by rw[bg,WN,tr]; omega) (fun j u hj=>by
        have Ut:j<min m n*k':=by have:=aj hj; rw[bg] at this; omega
        rw[aL Ut] at hj;exact hvc ady rfl j u hj)
       have hmin:Nat.min m n=min m n:=rfl;refine fin hx hy (v':=.int .i64 ((min m n:Nat):Int)) (w':=w') ?_ (.int _ _ _) q1 q2;have LD:(Builtin.firstCells i.size (Nat.min m n) (.slice (some ady) m OA)).run P w=.ok (vs.take (min m n*k')).toArray w:=hf;simp[Builtin.copy_,run_underlying hu,Builtin.lenOf,sizeOf,vd hi,LD,FW,goInt]
       try rfl
 ·cases hs

/-! Calls -/
def Ret (X:Nat->Prop) (φ:cX) (w:World) (r:AV) (H':Heap) (e:Ending) (w':World):Prop:=
 ∃ v' φ',e=.returned v'/\bD (Rd X φ' w') φ' r v'/\bO X φ' w' H'/\eT φ w φ' w'
def Bu (P:Program) (c:dM) (call:Nat->List AV->Heap->Option (AV × Heap)):Prop:=
 ∀ f m q,c.fn f=some (m,q)->∀args H r H',call f args H=some (r,H')->∀X φ w vargs,si X φ w args vargs->bO X φ w H->dD c X φ w->Calls P f vargs w (Ret X φ w r H')

theorem bO.gU (h:bO X φ w H) {g:Nat} (ho:bQ φ g):g<w.heap.size/\¬ X g:=by
 obtain⟨b,sz,hb⟩:=ho;obtain⟨x,hx⟩:=aS (l:=H) (i:=b) (h.len▸aj hb);cases x with
 |none=>rw[h.dead b hx] at hb; simp at hb
 |some cs=>
   obtain⟨g',o0,arr,e,h1,h2,_,_,h5,_⟩:=h.live b cs hx;rw[h1] at hb;simp at hb;rw[<-hb.1];exact⟨(ff.1 h2).1,h5⟩
theorem bO.empty (h:bO X φ w H):bO (fun g=>X g\/bQ φ g) [] w []:=
 ⟨rfl,fun g hg=>hg.elim (h.FK g) (fun ho=>(h.gU ho).1),fun b cs hb=>by simp at hb,fun b hb=>by simp at hb,fun b b' g sz o0 h1=>by simp at h1⟩
theorem KO (hh:bO X φ w H) {R:Addr->Value->Prop} (hR:∀a u,Rd X φ w a u->R a u) {xs ys:List AV} {bs:List Nat} {n:Nat} {vs:Array Value} (hm:AQ (Bj H n) xs=some (ys,bs))
  (hb:∀b∈bs,∀g sz:Nat,φ[b]?=some (some (g,sz))->∀o u,w.cell? ⟨g,o,none⟩=some u->R ⟨g,o,none⟩ u) (ha:si X φ w xs vs) :
  ys.length=vs.size/\∀ (i:Nat) (c:AV) (v:Value),ys[i]?=some c->vs[i]?=some v->bD R [] c v:=by
 obtain⟨hl,NP⟩:=sZ hm;refine⟨by rw[hl,ha.1],fun i c v hc hv=>?_⟩;obtain⟨x,hx⟩:=aS (l:=xs) (i:=i) (by have:=aj hc; omega);obtain⟨y,b,e1,e2,e3⟩:=NP i x hx;rw[e2] at hc;simp at hc;subst hc;exact CG hh hR n x _ v b e1 (fun b' iU=>hb b' (e3 b' iU)) (ha.2 i x v hx hv)

theorem AB {call:Nat->List AV->Heap->Option (AV × Heap)} (dI:Bu P c call) {f:Nat} {m:Md} {q:gR} (hf:c.fn f=some (m,q)) {args:List AV} {r r':AV} {H1:Heap} {bs:List Nat} (hr:call f args []=some (r,H1)) (hz:Bj H1 OL r=some (r',bs))
  (hh:bO X φ w H) (hg:dD c X φ w) {vargs:Array Value} (ha:args.length=vargs.size/\∀ (i:Nat) (c:AV) (v:Value),args[i]?=some c->vargs[i]?=some v->bD (Rd X φ w) [] c v) :
  Calls P f vargs w (Ret X φ w r' H):=by
 have Ba:∀{w':World} a u,Rd X φ w' a u->Rd (fun g=>X g\/bQ φ g) [] w' a u:=fun a u ⟨h1,h2,h3⟩=>⟨fun h=>h.elim h1 h2,bQ.nil _,h3⟩;have afM:∀{w':World} a u,Rd (fun g=>X g\/bQ φ g) [] w' a u->Rd X φ w' a u:=fun a u ⟨h1,_,h3⟩=>⟨fun h=>h1 (.inl h),fun h=>h1 (.inr h),h3⟩;refine (dI f m q hf args [] r H1 hr (fun g=>X g\/bQ φ g) [] w vargs ⟨ha.1,fun i x v hx hv=>(ha.2 i x v hx hv).mono Ba (.refl _)⟩ hh.empty (fun g=>(hg g).mono Ba (.refl _))).mono ?_;rintro e w1 ⟨v',nY,rfl,r1,h1,a1⟩;refine⟨v',φ,rfl,?_,hh.of_same a1,.of_same a1⟩
 have Cm:=CG h1 (R:=Rd (fun g=>X g\/bQ φ g) [] w1) (fun a u ⟨p1,p2,p3⟩=>⟨p1,bQ.nil _,p3⟩) OL r r' v' bs hz
  (fun b _ g sz hb o u hu=>⟨(h1.gU ⟨b,sz,hb⟩).2,bQ.nil _,hu⟩) r1
 exact (Cm.mono afM (.refl _)).GR φ
theorem Hk {call:Nat->List AV->Heap->Option (AV × Heap)} (dI:Bu P c call) {f:Nat} {args:List AV} {r:AV} {H':Heap} {fl:Fp} (hs:vW c call f args H=some (r,H',fl))
  (hh:bO X φ w H) (hg:dD c X φ w) {vargs:Array Value} (ha:si X φ w args vargs):(∃m q,c.fn f=some (m,q))/\Calls P f vargs w (Ret X φ w r H'):=by
 unfold vW at hs;split at hs
 ·cases hs
 ·rename_i q hf;refine⟨⟨_,_,hf⟩,?_⟩;split at hs
  case h_2=>cases hs
  rename_i r1 H1 hr;simp at hs;obtain⟨rfl,rfl,rfl⟩:=hs;exact dI f _ q hf args H r1 H1 hr X φ w vargs ha hh hg
 ·rename_i q hf;refine⟨⟨_,_,hf⟩,?_⟩;split at hs
  case h_2=>cases hs
  rename_i r1 H1 hr;split at hs
  case h_2=>cases hs
  rename_i r' bs hz;split at hs
  case isFalse=>cases hs
  rename_i hc;obtain⟨hle,hge,cW⟩:=hc;simp at hs;obtain⟨rfl,rfl,rfl⟩:=hs;refine (dI f _ q hf args H r1 H1 hr X φ w vargs ha hh hg).mono ?_;rintro e w1 ⟨v',nY,rfl,r1,h1,a1⟩;have hlen:=hh.len;refine⟨v',nY.take φ.length,rfl,?_,by rw[hlen]; exact h1.take hle cW,a1.take⟩
  have WX:∀{n:Nat} {l:List Nat},Sf n l=true->∀b∈l,n<=b:=by
   intro n l
   induction l with
   |nil=>intro _ b hb; simp at hb
   |cons x r ih=>
     intro h b hb;simp only[Sf,ae,decide_eq_true_eq] at h;rcases aK.1 hb with h'|h'
     ·subst h'; exact h.1
     ·exact ih h.2 b h'
  have Cm:=CG h1 (R:=Rd X (nY.take φ.length) w1) Pf OL _ _ v' bs hz (fun b hb g sz jT o u hu=>?_) r1
  ·exact Cm.GR _
  ·refine⟨(h1.gU ⟨b,sz,jT⟩).2,fun⟨b',o0,iU⟩=>?_,hu⟩;rw[bC] at iU;split at iU
   ·rename_i bY;have:=h1.inj b b' g sz o0 jT iU;have:=WX hge b hb;omega
   ·cases iU
 ·rename_i q hf;refine⟨⟨_,_,hf⟩,?_⟩;split at hs
  ·rename_i mX;split at hs
   case h_2=>cases hs
   rename_i r1 H1 hr;split at hs
   case h_2=>cases hs
   rename_i r' bs hz;simp at hs;obtain⟨rfl,rfl,rfl⟩:=hs;exact AB dI hf hr hz hh hg ⟨ha.1,fun i x v hx hv=>(ha.2 i x v hx hv).dx (qE mX i x hx) []⟩
  ·split at hs
   case h_2=>cases hs
   rename_i rR bs hm;split at hs
   case h_2=>cases hs
   rename_i r1 H1 hr;split at hs
   case h_2=>cases hs
   rename_i r' bs' hz;split at hs
   ·rename_i afG;simp at hs;obtain⟨rfl,rfl,rfl⟩:=hs;have hh0:bO X [] w []:=⟨rfl,hh.FK,fun b cs hb=>by simp at hb,fun b hb=>by simp at hb,fun b b' g sz o0 h1=>by simp at h1⟩;have Ba:∀{w':World} a u,Rd X φ w' a u->Rd X [] w' a u:=fun a u ⟨h1,_,h3⟩=>⟨h1,bQ.nil _,h3⟩;have Uw:=KO hh (R:=Rd X [] w) Ba hm (fun b _ g sz hb o u hu=>⟨(hh.gU ⟨b,sz,hb⟩).2,bQ.nil _,hu⟩) ha;have hc:=AB (X:=X) (φ:=[]) (H:=[]) dI hf hr hz hh0 (fun g=>(hg g).mono Ba (.refl _)) Uw;refine hc.mono ?_;rintro e w1 ⟨v',nY,rfl,r1,h1,a1⟩;exact⟨v',φ,rfl,r1.of_flat afG _ _,hh.of_same a1,.of_same a1⟩
   ·simp at hs;obtain⟨rfl,rfl,rfl⟩:=hs;obtain⟨k1,k2⟩:=bO.kill bs hh
    have Uw:=KO hh (R:=Rd X (La φ bs) w) k2.rd hm (fun b hb g sz jT o u hu=>⟨(hh.gU ⟨b,sz,jT⟩).2,fun⟨b',o0,iU⟩=>by
     obtain⟨e1,e2⟩:=G1 bs φ b' _ iU;exact e2 (hh.inj b b' g sz o0 jT e1▸hb),hu⟩) ha
    have hc:=AB dI hf hr hz k1 (hg.nN k2) Uw;refine hc.mono ?_;rintro e w1 ⟨v',nY,rfl,r1,h1,a1⟩;exact⟨v',nY,rfl,r1,h1,k2.trans a1⟩

theorem zm (cW:Mw P c) {f:Nat} {m:Md} {q:gR} (hf:c.fn f=some (m,q)) (vargs:Array Value):(callFunc f vargs).run P w=.ok (.enter f vargs) w:=by
 obtain⟨fn,h1,h2⟩:=cW.fn f m q hf;simp only[chkF,ae,bn] at h2;obtain⟨⟨⟨_,zV⟩,_⟩,s8⟩:=h2
 have hb:fn.body.isNone=false:=by
  cases hfb:fn.body with
  |none=>rw[hfb] at s8; cases s8
  |some b=>rfl
 simp only[callFunc,Sem.run_bind,run_program,Result.andThen_ok,h1,zV,hb,bk,if_false,Sem.run_pure]
theorem Ok.call {f:Nat} {vargs:Array Value} {r:AV} {H':Heap} (hr:(execOp a.eval o).run P w=.ok (.enter f vargs) w) (hc:Calls P f vargs w (Ret X φ w r H')):Ok P X φ w o a r H':=by
 intro K Q hK;unfold Oper.wp;rw[hr,Oper.upon_enter];refine hc.mono ?_;rintro e w' ⟨v',φ',rfl,r1,h1,a1⟩;exact hK v' w' φ' r1 h1 a1
theorem Zb {call:Nat->List AV->Heap->Option (AV × Heap)} (cW:Mw P c) (dI:Bu P c call) {ca:Call} {f:Nat} {ys:List E} {r:AV} {H':Heap} {fl:Fp} (eI:o.op=.call ca) (BT:ca.callee=.value (.func f))
  (hh:bO X φ w H) (he:oZ X φ w env a.tmps) (hg:dD c X φ w) (mE:iy ca.args.toList ys=true) (hs:fi c call env H (.call f ys)=some (r,H',fl)):Ok P X φ w o a r H':=by
 obtain⟨hl,hr⟩:=nH he hg mE;obtain⟨⟨m,q,hf⟩,hc⟩:=Hk (P:=P) dI hs hh hg (vargs:=ca.args.map a.eval) ⟨by simp[hl],fun i x v hx hv=>hr i x v hx (by simpa using hv)⟩;refine Ok.call ?_ hc;simp only[execOp,eI,resolve,BT,Act.eval,Deferred.ofValue,invoke,Sem.run_bind,Sem.run_pure,Result.andThen_ok,Array.empty_append,Array.append_empty];exact zm cW hf _
theorem VX {call:Nat->List AV->Heap->Option (AV × Heap)} (cW:Mw P c) (dI:Bu P c call) {ca:Call} {x:Operand} {y:E} {ys:List E} {r:AV} {H':Heap} {fl:Fp} (eI:o.op=.call ca) (BT:ca.callee=.value x)
  (hh:bO X φ w H) (he:oZ X φ w env a.tmps) (hg:dD c X φ w) (hx:cH x y=true) (mE:iy ca.args.toList ys=true) (hs:fi c call env H (.iR y ys)=some (r,H',fl)):Ok P X φ w o a r H':=by
 obtain⟨hl,hr⟩:=nH he hg mE;have rx:=bL (a:=a) he hg hx;simp only[fi] at hs;split at hs
 case h_2=>cases hs
 rename_i f as bs hy;rw[hy] at rx;generalize MJ:a.eval x=ax at rx;cases rx with
 |func _ _ _ va _ vb hyy yL yK hra hrb=>
   have j8:si X φ w (as++CH c env ys++bs) (va++ca.args.map a.eval++vb):=by
    have c1:Cs X φ w as va.toList:=⟨by simpa using yL,fun i x v hx hv=>hra i x v hx (by simpa using hv)⟩;have c2:Cs X φ w (CH c env ys) (ca.args.map a.eval).toList:=⟨by simp[hl],fun i x v hx hv=>hr i x v hx (by simpa using hv)⟩;have c3:Cs X φ w bs vb.toList:=⟨by simpa using yK,fun i x v hx hv=>hrb i x v hx (by simpa using hv)⟩;have c4:=(c1.append c2).append c3
    exact⟨by have:=c4.1; simp at this ⊢; omega,fun i x v hx hv=>c4.2 i x v hx (by
     have:(va++ca.args.map a.eval++vb).toList=va.toList++(ca.args.map a.eval).toList++vb.toList:=by simp
     rw[<-this,eF]; exact hv)⟩
   obtain⟨⟨m,q,hf⟩,hc⟩:=Hk (P:=P) dI hs hh hg j8;refine Ok.call ?_ hc;simp only[execOp,eI,resolve,BT,MJ,Deferred.ofValue,invoke,Sem.run_bind,Sem.run_pure,Result.andThen_ok];exact zm cW hf _
end
end Go.Am

/- What one operation of the dump does, continued: maps. -/
namespace Go.Am
section
variable {P:Program} {c:dM} {X:Nat->Prop} {φ:cX} {w:World} {env:Env} {H:Heap} {a:Act} {o:Oper}

def IB (l:List AV):Prop:=∀c∈l,(∃k n,c=.int k n)\/∃ b,c=.bool b
theorem EM:∀{l:List Bool} {xs ys:List AV},xf l xs ys=some true->xs=ys/\IB xs
 |[],xs,ys,h=>by
   cases xs<;>cases ys<;>simp[xf] at h
   exact⟨rfl,fun c hc=>by cases hc⟩
 |true::l,xs,ys,h=>by
   obtain⟨k,a,r,b,s,e',rfl,rfl,h1,h2⟩:=I4 h;simp only[Bz,ae,beq_iff_eq] at h2;obtain⟨rfl,rfl⟩:=h2;obtain⟨rfl,h3⟩:=EM h1;refine⟨rfl,fun c hc=>?_⟩;rcases aK.1 hc with rfl|hc
   ·exact .inl ⟨_,_,rfl⟩
   ·exact h3 c hc
 |false::l,xs,ys,h=>by
   obtain⟨a,r,b,s,e',rfl,rfl,h1,h2⟩:=EN h;simp only[Bz,ae,beq_iff_eq] at h2;obtain⟨rfl,rfl⟩:=h2;obtain⟨rfl,h3⟩:=EM h1;refine⟨rfl,fun c hc=>?_⟩;rcases aK.1 hc with rfl|hc
   ·exact .inr ⟨_,rfl⟩
   ·exact h3 c hc
theorem adD {R R':Addr->Value->Prop} {ψ:cX} {x:AV} {u v:Value} (h:(∃k n,x=.int k n)\/∃ b,x=.bool b) (h1:bD R φ x u) (h2:bD R' ψ x v):u=v:=by
 rcases h with⟨k,n,rfl⟩|⟨b,rfl⟩<;>cases h1<;>cases h2<;>rfl
theorem adE {R:Addr->Value->Prop} {x:AV} {u:Value} (h:(∃k n,x=.int k n)\/∃ b,x=.bool b) (h1:bD R φ x u) (n:Nat):Instr.sameBits n u u=true:=by
 rcases h with⟨k,m,rfl⟩|⟨b,rfl⟩<;>cases h1<;>cases n<;>simp[Instr.sameBits]
theorem adG {R R':Addr->Value->Prop} {ψ:cX} {xs:List AV} (h:IB xs) {u v:Value} (h1:bD R φ (.agg xs) u) (h2:bD R' ψ (.agg xs) v):u=v/\∀ n,Instr.sameBits (n+1) u u=true:=by
 cases h1 with
 |agg _ _ va yL ha=>
   cases h2 with
   |agg _ _ vb yK hb=>
     have e:va=vb:=by
      apply Array.ext
      ·omega
      ·intro i i1 i2;obtain⟨x,hx⟩:=aS (l:=xs) (i:=i) (by omega);exact adD (h x (aU hx)) (ha i x _ hx (j9 i1)) (hb i x _ hx (j9 i2))
     subst e;refine⟨rfl,fun n=>?_⟩;simp only[Instr.sameBits,beq_self_eq_true,Bool.true_and,rT];rintro⟨p,q⟩ hpq;obtain⟨i,hi⟩:=bt hpq;rw[List.getElem?_zip_eq_some] at hi;obtain⟨i1,i2⟩:=hi;simp only at i1 i2;rw[i1] at i2;cases i2;obtain⟨x,hx⟩:=aS (l:=xs) (i:=i) (by have:=aj i1; simp at this; omega);exact adE (h x (aU hx)) (ha i x p hx (by simpa using i1)) n
theorem Ld {R R':Addr->Value->Prop} {ψ:cX} {K:Kt} {x y:AV} {u v:Value} (h:wV K x y=some true) (h1:bD R φ x u) (h2:bD R' ψ y v):u=v/\∀ n,Instr.sameBits (n+1) u u=true:=by
 unfold wV at h;split at h
 ·rename_i k k1 a k2 b;split at h
  ·rename_i hk;obtain⟨rfl,rfl⟩:=hk;simp at h;subst h;cases h1; cases h2;exact⟨rfl,fun n=>by simp[Instr.sameBits]⟩
  ·cases h
 ·rename_i a b;simp only[af] at h;obtain rfl:=(MapKept.bytes_beq a b).1 h;cases h1; cases h2;exact⟨rfl,fun n=>by simp only[Instr.sameBits]; exact (MapKept.bytes_beq a a).2 rfl⟩
 ·obtain⟨rfl,hib⟩:=EM h;exact adG hib h1 h2
 ·cases h
theorem aaS {t:TypeId} {l:List Bool} (hc:qX P t (.kst l)=true) {xs ys:List AV} {u v:Value} {e:Bool} (h:xf l xs ys=some e) (h1:bD (Rd X φ w) φ (.agg xs) u) (h2:bD (Rd X φ w) φ (.agg ys) v):(Op.equal t u v).run P w=.ok e w:=by
 cases h1 with
 |agg _ _ vx Be hrx=>
   cases h2 with
   |agg _ _ vy Bd hry=>
     simp only[qX] at hc;split at hc
     ·rename_i fs hu;simp only[ae,bn] at hc;obtain⟨⟨MI,F1⟩,hc3⟩:=hc;have hfo:P.fieldsOf t=fs:=by simp[Program.fieldsOf,hu]
      show (Op.equalIn 10000 t (.agg vx) (.agg vy)).run P w=_;rw[show (10000:Nat)=9999+1 from rfl,run_equalIn_struct w 9999 t vx vy (by rw[hu,hfo]) MI,hfo];exact tv 9998 fs.toList l 0 xs ys vx vy e hc3 (by simpa using h) Be Bd hrx hry
     ·cases hc
def OJ (X:Nat->Prop) (φ:cX) (w:World) (cs:List AV) (es:List MapEntry):Prop:=cs.length=es.length/\∀ (i:Nat) (c:AV) (e:MapEntry),cs[i]?=some c->es[i]?=some e->bD (Rd X φ w) φ c (.tuple #[e.key,e.val])
theorem OJ.tail {c:AV} {cs:List AV} {e:MapEntry} {es:List MapEntry} (h:OJ X φ w (c::cs) (e::es)):bD (Rd X φ w) φ c (.tuple #[e.key,e.val])/\OJ X φ w cs es:=
 ⟨h.2 0 c e rfl rfl,by have:=h.1; simpa using this,fun i c' e' h1 h2=>h.2 (i+1) c' e' (by simpa using h1) (by simpa using h2)⟩
theorem JW {R:Addr->Value->Prop} {x y:AV} {u v:Value} (h:bD R φ (.dA [x,y]) (.tuple #[u,v])):bD R φ x u/\bD R φ y v:=by
 cases h with
 |dA _ _ vs hl h=>exact⟨h 0 x u rfl rfl,h 1 y v rfl rfl⟩
theorem zu {R:Addr->Value->Prop} {x y:AV} {u v:Value} (h1:bD R φ x u) (h2:bD R φ y v):bD R φ (.dA [x,y]) (.tuple #[u,v]):=by
 refine .dA _ _ _ rfl fun i c z hc hz=>?_
 match i with
 |0=>simp at hc hz; subst hc; subst hz; exact h1
 |1=>simp at hc hz; subst hc; subst hz; exact h2
 |i+2=>simp at hc
def Found (X:Nat->Prop) (φ:cX) (w:World) (es:List MapEntry) (i:Nat) (u:Value):Option (Nat × AV)->Option (Nat × Value)->Prop
 |none,r=>r=none
 |some (n,v),r=>∃e,i<=n/\es[n-i]?=some e/\r=some (n,e.val)/\bD (Rd X φ w) φ v e.val/\e.key=u/\∀ m,Instr.sameBits (m+1) u u=true
theorem Found.next {es:List MapEntry} {e0:MapEntry} {i:Nat} {u:Value} {r:Option (Nat × AV)} {q:Option (Nat × Value)} (h:Found X φ w es (i+1) u r q):Found X φ w (e0::es) i u r q:=by
 cases r with
 |none=>exact h
 |some p=>
   obtain⟨n,v⟩:=p;obtain⟨e,h1,h2,h3⟩:=h;refine⟨e,by omega,?_,h3⟩;rw[show n-i=(n-(i+1))+1 by omega];simpa using h2
theorem yA {K:Kt} {x c:AV} {cs:List AV} {i:Nat} {r:Option (Nat × AV)} (h:gM K x (c::cs) i=some r):∃k' v,c=.dA [k',v]/\((wV K x k'=some true/\r=some (i,v))\/(wV K x k'=some false/\gM K x cs (i+1)=some r)):=by
 have shape:∃k' v,c=.dA [k',v]:=by
  cases c with
  |dA vs=>
    match vs,h with
    |[],h=>simp[gM] at h
    |[_],h=>simp[gM] at h
    |[k',v],h=>exact⟨k',v,rfl⟩
    |_::_::_::_,h=>simp[gM] at h
  |_=>simp[gM] at h
 obtain⟨k',v,rfl⟩:=shape;refine⟨k',v,rfl,?_⟩;simp only[gM] at h;split at h
 ·rename_i hb;simp only[af] at h;exact .inl ⟨hb,h.symm⟩
 ·rename_i hb;exact .inr ⟨hb,h⟩
 ·cases h
theorem vT {d:TypeDesc} {K:Kt} (hd:(∃k,d=.int k/\K=.Wv k)\/(d=.string/\K=.yE)) {x:AV} {u:Value} (rx:bD (Rd X φ w) φ x u):∀(cs:List AV) (es:List MapEntry) (i:Nat) (r:Option (Nat × AV)),gM K x cs i=some r->OJ X φ w cs es ->
  ∃ q,Instr.findNow d u es i=some q/\Found X φ w es i u r q
 |[],es,i,r,h,he=>by
   obtain rfl:es=[]:=dH (by have:=he.1; simpa using this.symm);simp only[gM,af] at h;subst h;exact⟨none,rfl,rfl⟩
 |c::cs,[],i,r,h,he=>by have:=he.1; simp at this
 |c::cs,e::es,i,r,h,he=>by
   obtain⟨rc,ht⟩:=he.tail;obtain⟨k',v,rfl,EC⟩:=yA h;clear h;obtain⟨rk,rv⟩:=JW rc
   have key:∀b,wV K x k'=some b->Instr.sameNow d u e.key=some b:=by
    intro b hb;generalize e.key=z at rk ⊢;rcases hd with⟨k,rfl,rfl⟩|⟨rfl,rfl⟩
    ·cases x<;>cases k'<;>simp only[wV] at hb<;>try (cases hb; done)
     split at hb
     ·rename_i hk;obtain⟨rfl,rfl⟩:=hk;cases rx; cases rk;simpa[Instr.sameNow] using hb
     ·cases hb
    ·cases x<;>cases k'<;>simp only[wV] at hb<;>try (cases hb; done)
     cases rx; cases rk;simpa[Instr.sameNow] using hb
   rcases EC with⟨hb,rfl⟩|⟨hb,h⟩
   ·obtain⟨q1,q2⟩:=Ld hb rx rk;exact⟨some (i,e.val),by simp only[Instr.findNow,key _ hb],e,aG _,by simp,rfl,rv,q1.symm,q2⟩
   ·obtain⟨q,h1,h2⟩:=vT hd rx cs es (i+1) r h ht;exact⟨q,by simp only[Instr.findNow,key _ hb]; exact h1,h2.next⟩
theorem Hg {t:TypeId} {l:List Bool} (hc:qX P t (.kst l)=true) {x:AV} {u:Value} (rx:bD (Rd X φ w) φ x u):∀(cs:List AV) (es:List MapEntry) (i:Nat) (r:Option (Nat × AV)),gM (.kst l) x cs i=some r->OJ X φ w cs es ->
  ∃ q,(Instr.findAsking t u es i).run P w=.ok q w/\Found X φ w es i u r q
 |[],es,i,r,h,he=>by
   obtain rfl:es=[]:=dH (by have:=he.1; simpa using this.symm);simp only[gM,af] at h;subst h;exact⟨none,rfl,rfl⟩
 |c::cs,[],i,r,h,he=>by have:=he.1; simp at this
 |c::cs,e::es,i,r,h,he=>by
   obtain⟨rc,ht⟩:=he.tail;obtain⟨k',v,rfl,EC⟩:=yA h;clear h;obtain⟨rk,rv⟩:=JW rc
   have key:∀b,wV (.kst l) x k'=some b->(Op.equal t u e.key).run P w=.ok b w:=by
    intro b hb;generalize e.key=z at rk ⊢;cases x<;>cases k'<;>simp only[wV] at hb<;>try (cases hb; done)
    exact aaS hc hb rx rk
   rcases EC with⟨hb,rfl⟩|⟨hb,h⟩
   ·obtain⟨q1,q2⟩:=Ld hb rx rk;exact⟨some (i,e.val),by simp[Instr.findAsking,key _ hb],e,aG _,by simp,rfl,rv,q1.symm,q2⟩
   ·obtain⟨q,h1,h2⟩:=Hg hc rx cs es (i+1) r h ht;exact⟨q,by simp only[Instr.findAsking,Sem.run_bind,key _ hb,Result.andThen_ok,bk,if_false]; exact h1,h2.next⟩
theorem LZ {t:TypeId} {K:Kt} (hc:qX P t K=true) {x:AV} {u:Value} (rx:bD (Rd X φ w) φ x u) {cs:List AV} {es:List MapEntry} {r:Option (Nat × AV)} (h:gM K x cs 0=some r) (he:OJ X φ w cs es) :
  ∃ q,(Instr.findKey t u es).run P w=.ok q w/\Found X φ w es 0 u r q:=by
 cases K with
 |Wv k=>
   simp only[qX] at hc;split at hc
   ·rename_i k' hu;simp only[decide_eq_true_eq] at hc;subst hc;obtain⟨q,h1,h2⟩:=vT (d:=.int k) (.inl ⟨k,rfl,rfl⟩) rx cs es 0 r h he;exact⟨q,MapKept.run_findKey hu h1,h2⟩
   ·cases hc
 |yE=>
   simp only[qX] at hc;split at hc
   ·rename_i hu;obtain⟨q,h1,h2⟩:=vT (d:=.string) (.inr ⟨rfl,rfl⟩) rx cs es 0 r h he;exact⟨q,MapKept.run_findKey hu h1,h2⟩
   ·cases hc
 |kst l=>
   obtain⟨q,h1,h2⟩:=Hg hc rx cs es 0 r h he;simp only[qX] at hc;split at hc
   ·rename_i fs hu;exact⟨q,by rw[run_findKey_eq w (by rw[hu]) u es]; exact h1,h2⟩
   ·cases hc
theorem yV (em:Bool) (n:Nat):∀(fs:List Field) (l:List Bool) (off:Nat) (xs:List AV) (vx:Array Value),sa P off fs l=true->xf l (xs.drop off) (xs.drop off)=some true->xs.length=vx.size ->
  (∀(i:Nat) (c:AV) (v:Value),xs[i]?=some c->vx[i]?=some v->bD (Rd X φ w) φ c v) ->
  (forIn (m := Sem) fs FH (fun f _ => if f.name ≠ "_" then (do
    let z <- part f.type vx f.offset
    Instr.checkKey em (n+1) f.type z
    pure (OV FH)) else pure (OV FH))).run P w=.ok FH w
 |[],_,_,_,_,_,_,_,_=>rfl
 |f::fs,[],off,xs,vx,h,_,_,_=>by simp[sa] at h
 |f::fs,b::l,off,xs,vx,h,he,hl,hr=>by
   simp only[sa,ae,decide_eq_true_eq] at h;obtain⟨⟨⟨IF,zV⟩,CD⟩,G3⟩:=h
   have cell:∀(z:AV) (r:List AV),xs.drop off=z::r->(∃v,vx[off]?=some v)/\xs[off]?=some z/\xs.drop (off+1)=r:=by
    intro z r hd
    have h0:xs[off]?=some z:=by
     have h:=congrArg (·[0]?) hd;simp only[aO,JB,Cb] at h;exact h
    refine⟨bP (by have:=aj h0; omega),h0,?_⟩;rw[<-List.tail_drop,hd]; rfl
   split at CD
   ·rename_i k hu;subst CD;have zX:kF P f.type=some none:=by simp[kF,hu]
    have ZT:=nM (P:=P) (w:=w) zX;obtain⟨kx,a,r,b',s,e',ZZ,_,hee,h9⟩:=I4 he;obtain⟨⟨vx0,WM⟩,yI,Yf⟩:=cell _ _ ZZ;obtain rfl:=gq (hr off _ vx0 yI WM);obtain⟨k',hk'⟩:∃k',k'=k:=⟨k,rfl⟩
    have ih:=yV em n fs l (off+1) xs vx G3 (by
     rw[Yf];rename_i BS
     have:s=r:=by
      have:=ZZ.symm.trans ‹xs.drop off=.int kx b'::s›;simp at this;exact this.2.symm
     subst this;rw[hee];simp only[Bz,ae] at h9;rw[h9.2]) hl hr
    rw[List.forIn_cons]
    have ck:(Instr.checkKey em (n+1) f.type (.int kx a)).run P w=.ok () w:=by
     unfold Instr.checkKey;simp only[Sem.run_bind,run_underlying hu,Result.andThen_ok];rfl
    simp only[zV,ne_eq,not_false_eq_true,if_true,part,Sem.run_bind,ZT,Result.andThen_ok,bk,if_false,IF,WM,Sem.run_pure,ck];exact ih
   ·rename_i hu;simp only[bn] at CD;subst CD;have zX:kF P f.type=some none:=by simp[kF,hu]
    have ZT:=nM (P:=P) (w:=w) zX;obtain⟨a,r,b',s,e',ZZ,_,hee,h9⟩:=EN he;obtain⟨⟨vx0,WM⟩,yI,Yf⟩:=cell _ _ ZZ;obtain rfl:=lZ (hr off _ vx0 yI WM)
    have ih:=yV em n fs l (off+1) xs vx G3 (by
     rw[Yf]
     have:s=r:=by
      have:=ZZ.symm.trans ‹xs.drop off=.bool b'::s›;simp at this;exact this.2.symm
     subst this;rw[hee];simp only[Bz,ae] at h9;rw[h9.2]) hl hr
    rw[List.forIn_cons]
    have ck:(Instr.checkKey em (n+1) f.type (.bool a)).run P w=.ok () w:=by
     unfold Instr.checkKey;simp only[Sem.run_bind,run_underlying hu,Result.andThen_ok];rfl
    simp only[zV,ne_eq,not_false_eq_true,if_true,part,Sem.run_bind,ZT,Result.andThen_ok,bk,if_false,IF,WM,Sem.run_pure,ck];exact ih
   ·cases CD
theorem Hz {t:TypeId} {K:Kt} (hc:qX P t K=true) {x:AV} {u:Value} (rx:bD (Rd X φ w) φ x u) (hs:wV K x x=some true) (em:Bool):(Instr.checkKey em 10000 t u).run P w=.ok () w:=by
 cases K with
 |Wv k=>
   simp only[qX] at hc;split at hc
   ·rename_i k' hu;cases x<;>simp only[wV] at hs<;>try (cases hs; done)
    cases rx;unfold Instr.checkKey;simp only[Sem.run_bind,run_underlying hu,Result.andThen_ok];rfl
   ·cases hc
 |yE=>
   simp only[qX] at hc;split at hc
   ·rename_i hu;cases x<;>simp only[wV] at hs<;>try (cases hs; done)
    cases rx;unfold Instr.checkKey;simp only[Sem.run_bind,run_underlying hu,Result.andThen_ok];rfl
   ·cases hc
 |kst l=>
   simp only[qX] at hc;split at hc
   ·rename_i fs hu;simp only[ae,bn] at hc;cases x<;>simp only[wV] at hs<;>try (cases hs; done)
    rename_i xs;cases rx with
    |agg _ _ vx hl hr=>
      have h:=yV (X:=X) (φ:=φ) (w:=w) em 9998 fs.toList l 0 xs vx hc.2 (by simpa using hs) hl hr;unfold Instr.checkKey;simp only[Sem.run_bind,run_underlying hu,Result.andThen_ok];simp only[Nat.reduceAdd] at h;rw[<-Array.forIn_toList,h];rfl
   ·cases hc
theorem zM {x:AV} {b:Nat} (h:mapOf x=some b):x=nB b:=by
 unfold mapOf at h;split at h
 ·simp only[af] at h; subst h; rfl
 ·cases h
theorem tw {R:Addr->Value->Prop} {b:Nat} {v:Value} (h:bD R φ (nB b) v):∃r,v=.map (some r)/\∀ g sz:Nat,φ[b]?=some (some (g,sz))->r=g/\sz=0:=by
 unfold nB at h;cases h with
 |func _ _ _ _ _ _ hy=>cases hy
 |yw _ _ r hb h=>exact⟨r,rfl,h⟩
theorem Wi (hh:bO X φ w H) {b:Nat} {cs:List AV} (hb:aN H b=some cs) {v:Value} (r:bD (Rd X φ w) φ (nB b) v):∃g es MK,v=.map (some g)/\φ[b]?=some (some (g,0))/\w.heap[g]?=some (.map es MK)/\¬ X g/\OJ X φ w cs es.toList:=by
 obtain⟨g,rfl,hg⟩:=tw r;obtain⟨g',sz,arr,o,h1,h2,h3,h4,h5,h6⟩:=hh.at hb;obtain⟨rfl,rfl⟩:=hg g' sz h1;rcases h3 with⟨e,_,h3⟩|⟨es,MK,rfl,_,rfl⟩
 ·omega
 ·refine⟨g,es,MK,rfl,h1,h2,h5,by have:=h4.2 rfl; simpa using this,fun i c e hc he=>?_⟩;obtain⟨u,hu,r⟩:=h6 i c hc;rw[rf] at hu;rw[eF] at he;rw[he] at hu;simp only[bV,af] at hu;rw[<-hu] at r;exact r
theorem Y5 {t:TypeId} (eI:o.op=.makeMap t none) (hh:bO X φ w H):Ok P X φ w o a (nB H.length) (H++[some []]):=by
 obtain⟨h1,h2⟩:=hh.aef (w':=w.alloc (.map #[] 0)) rfl rfl rfl rfl (aG _);refine Ok.value (v':=.map (some w.heap.size)) ?_ ?_ h1 h2
 ·have hm:(Instr.makeMap t none).run P w=.ok (.map (some w.heap.size)) (w.alloc (.map #[] 0)):=rfl;simp[execOp,eI,hm]
 ·refine .yw _ _ _ (by simp[hh.len]) fun g sz hg=>?_;rw[<-hh.len] at hg;simp at hg;exact⟨hg.1,hg.2.symm⟩
theorem Y8 {t kt et:TypeId} {x k:Operand} {K:Kt} {ok:Bool} {z xv kv:AV} {b:Nat} {cs:List AV} {r:Option (Nat × AV)} (eI:o.op=.lookup t x k ok) (hh:bO X φ w H) (hu:P.underlying t=some (.map kt et)) (hc:qX P kt K=true) (hz:HQ P et z=true)
  (rx:bD (Rd X φ w) φ xv (a.eval x)) (rk:bD (Rd X φ w) φ kv (a.eval k)) (hx:mapOf xv=some b) (hb:aN H b=some cs) (hs:wV K kv kv=some true) (hf:gM K kv cs 0=some r):Ok P X φ w o a (Tv ok z r) H:=by
 obtain rfl:=zM hx;obtain⟨g,es,MK,hv,jT,hg,hX,he⟩:=Wi hh hb rx;obtain⟨q,hq,hfd⟩:=LZ hc rk hf he;have hck:=Hz hc rk hs es.isEmpty;unfold HQ at hz;split at hz
 case h_2=>cases hz
 rename_i inf hi;split at hz
 case h_2=>cases hz
 rename_i zv hzv;have rz:=Bp (R:=Rd X φ w) (ψ:=φ) hz
 have go:∀(v:Value),(match q with
   |some (_,v)=>(v,true)
   |none=>(zv,false))=(v,q.isSome)->(execOp a.eval o).run P w=.ok (.value (if ok then .tuple #[v,.bool q.isSome] else v)) w:=by
  intro v hvv;simp only[execOp,eI,hv,Instr.lookup,Sem.run_bind,run_underlying hu,Result.andThen_ok,MapKept.run_getObj_map hg,hck,hq,Sem.run_pure];cases q with
  |none=>
    simp only[aA] at hvv;obtain⟨rfl,_⟩:=hvv;simp[qB hi hzv]
  |some p=>
    obtain⟨n,u⟩:=p;simp only[aA] at hvv;obtain⟨rfl,_⟩:=hvv;simp
 cases r with
 |none=>
   obtain rfl:q=none:=hfd;refine Ok.quiet (go zv rfl) ?_ hh;cases ok
   ·exact rz
   ·exact zu rz (.bool _ _)
 |some p=>
   obtain⟨n,v⟩:=p;obtain⟨e,_,_,rfl,rv,_⟩:=hfd;refine Ok.quiet (go e.val rfl) ?_ hh;cases ok
   ·exact rv
   ·exact zu rv (.bool _ _)
theorem Y4 {t kt et:TypeId} {x k y:Operand} {K:Kt} {xv kv yv:AV} {b:Nat} {cs:List AV} {r:Option (Nat × AV)} (eI:o.op=.mapUpdate t x k y) (hh:bO X φ w H) (hu:P.underlying t=some (.map kt et)) (hc:qX P kt K=true)
  (rx:bD (Rd X φ w) φ xv (a.eval x)) (rk:bD (Rd X φ w) φ kv (a.eval k)) (ry:bD (Rd X φ w) φ yv (a.eval y)) (hx:mapOf xv=some b) (hb:aN H b=some cs) (hs:wV K kv kv=some true) (hf:gM K kv cs 0=some r):Ok P X φ w o a .undef (H.set b (some (yx kv yv cs r))):=by
 obtain rfl:=zM hx;obtain⟨g,es,MK,hv,jT,hg,hX,he⟩:=Wi hh hb rx;obtain⟨q,hq,hfd⟩:=LZ hc rk hf he;have hck:=Hz hc rk hs false;obtain⟨s1,s2⟩:=MapKept.heap_set (o':=Obj.map (es.push { key:=a.eval k,val:=a.eval y,born:=MK }) (MK+1)) hg;have ents:∀(i:Nat) (c:AV) (e:MapEntry),cs[i]?=some c->es[i]?=some e->bD (Rd X φ w) φ c (.tuple #[e.key,e.val]):=fun i c e h1 h2=>he.2 i c e h1 (by rw[eF]; exact h2);have hlen:cs.length=es.size:=by have:=he.1; simpa using this
 cases r with
 |none=>
   obtain rfl:q=none:=hfd
   obtain⟨h1,h2⟩:=hh.UK (b:=b) (g:=g) (w':={ w with heap:=w.heap.setIfInBounds g (Obj.map (es.push { key:=a.eval k,val:=a.eval y,born:=MK }) (MK+1)) }) (es':=es.push { key:=a.eval k,val:=a.eval y,born:=MK }) (clk':=MK+1) (cs':=yx kv yv cs none) jT s1 s2 (by simp) rfl rfl rfl (aG _) hX (by simp[yx,hlen]) (fun i c hi=>by
    unfold yx at hi;simp only at hi;rw[rf,xV];by_cases bY:i<cs.length
    ·rw[au bY] at hi;obtain⟨e,he'⟩:=bP (l:=es) (i:=i) (by omega);rw[if_neg (by omega),he'];exact⟨_,rfl,ents i c e hi he'⟩
    ·have w7:=aj hi;simp at w7;have hie:i=cs.length:=by omega
     subst hie;rw[aJ (aG _)] at hi;simp at hi;subst hi;rw[if_pos hlen];exact⟨_,rfl,zu rk ry⟩)
   refine Ok.skip ?_ h1 h2;simp only[execOp,eI,hv,Instr.mapUpdate,Sem.run_bind,run_underlying hu,Result.andThen_ok,MapKept.run_getObj_map hg,hck,hq,MapKept.run_setObj_map _ hg];rfl
 |some p=>
   obtain⟨n,v⟩:=p;obtain⟨e,_,hen,rfl,rv,hkey,Ez⟩:=hfd;rw[MN] at hen;have hen':es[n]?=some e:=by rw[<-eF]; exact hen
   obtain⟨s1,s2⟩:=MapKept.heap_set (o':=Obj.map (es.modify n fun e=>{ e with key:=a.eval k,val:=a.eval y }) MK) hg
   obtain⟨h1,h2⟩:=hh.UK (b:=b) (g:=g) (w':={ w with heap:=w.heap.setIfInBounds g (Obj.map (es.modify n fun e=>{ e with key:=a.eval k,val:=a.eval y }) MK) }) (es':=es.modify n fun e=>{ e with key:=a.eval k,val:=a.eval y }) (clk':=MK) (cs':=yx kv yv cs (some (n,v))) jT s1 s2 (by simp) rfl rfl rfl (aG _) hX (by simp[yx,hlen]) (fun i c hi=>by
    unfold yx at hi;simp only at hi;rw[rf,Array.getElem?_modify];rw[aQ] at hi;by_cases hni:n=i
    ·subst hni;rw[if_pos rfl] at hi ⊢;split at hi
     ·simp at hi;subst hi;rw[hen'];exact⟨_,rfl,zu rk ry⟩
     ·simp at hi
    ·rw[if_neg hni] at hi ⊢;obtain⟨e',he'⟩:=bP (l:=es) (i:=i) (by have:=aj hi; omega);rw[he'];exact⟨_,rfl,ents i c e' hi he'⟩)
   refine Ok.skip ?_ h1 h2
   have hks:(Instr.keyThatStays (((es[n]?).map (·.key)).getD (a.eval k)) (a.eval k)).run P w=.ok (a.eval k) w:=by
    rw[hen'];simp only[bV,eX,hkey,Instr.keyThatStays];rw[Ez 9999];simp
   simp only[execOp,eI,hv,Instr.mapUpdate,Sem.run_bind,run_underlying hu,Result.andThen_ok,MapKept.run_getObj_map hg,hck,hq,hks,MapKept.run_setObj_map _ hg];rfl
end
end Go.Am

/- Every operation; regions in the order of the text, and regions that draw their order. -/
namespace Go.Am
section
variable {P:Program} {c:dM} {X:Nat->Prop} {φ:cX} {w:World} {env:Env} {H:Heap} {a:Act} {o:Oper}

theorem afk {call:Nat->List AV->Heap->Option (AV × Heap)} (cW:Mw P c) (dI:Bu P c call) (he:oZ X φ w env a.tmps) (hg:dD c X φ w) (hh:bO X φ w H) {kd:Kd} {v:AV} {H':Heap} {fl:Fp}
  (hk:cG P o.op kd=true) (hs:fi c call env H kd=some (v,H',fl)):Ok P X φ w o a v H':=by
 generalize eI:o.op=op at hk;unfold cG at hk;split at hk
 case h_1=>
  simp[fi] at hs; obtain⟨rfl,rfl,_⟩:=hs;exact Ok.quiet (by simp[execOp,eI]) (bL he hg hk) hh
 case h_2=>
  simp[fi] at hs; obtain⟨rfl,rfl,_⟩:=hs;exact Ok.quiet (by simp[execOp,eI]) (bL he hg hk) hh
 case h_3=>
  simp only[ae] at hk;simp only[fi] at hs;split at hs
  case h_2=>cases hs
  rename_i t ht;simp at hs; obtain⟨rfl,rfl,_⟩:=hs;have r:=bL (a:=a) he hg hk.1.1;rw[ht] at r;exact Y3 eI hh r (bL he hg hk.1.2) (bL he hg hk.2)
 case h_4=>
  simp[fi] at hs; obtain⟨rfl,rfl,_⟩:=hs;exact Nu eI hh hk
 case h_5=>
  simp only[fi] at hs;split at hs
  case isFalse=>cases hs
  rename_i hl;simp at hs; obtain⟨rfl,rfl,_⟩:=hs;exact adi eI hh (bL he hg hk) hl
 case h_6=>
  simp only[ae] at hk;simp only[fi] at hs;split at hs
  case h_2=>cases hs
  rename_i cs hf;simp at hs; obtain⟨rfl,rfl,_⟩:=hs;exact VZ eI hh he hg hk.1 hk.2 hf
 case h_7=>
  simp only[ae,decide_eq_true_eq] at hk;obtain⟨⟨⟨⟨h1,h2⟩,h3⟩,h4⟩,h5⟩:=hk;subst h1;simp only[fi] at hs;split at hs
  case h_2=>cases hs
  rename_i cs hf;split at hs
  case isFalse=>cases hs
  simp at hs; obtain⟨rfl,rfl,_⟩:=hs;exact Tq eI hh he hg h2 h3 h4 h5 hf
 case h_8=>
  simp only[ae,decide_eq_true_eq] at hk;exact afn eI hh (bL he hg hk.2) hk.1 hs
 case h_9=>
  simp only[ae] at hk;simp only[fi] at hs;split at hs
  case h_2=>cases hs
  rename_i b off hb;split at hs
  case h_2=>cases hs
  rename_i cs dB;split at hs
  case isFalse=>cases hs
  rename_i hc;simp at hs; obtain⟨rfl,rfl,_⟩:=hs;have r:=bL (a:=a) he hg hk.1.2;rw[hb] at r;exact VN eI hh dB hk.1.1 r (bL he hg hk.2) hc.1 hc.2.1 hc.2.2
 case h_10=>exact VP eI hh (bL he hg hk) hs
 case h_11=>
  simp only[ae,decide_eq_true_eq] at hk;obtain⟨⟨h1,h2⟩,h3⟩:=hk;subst h1;simp only[fi] at hs;split at hs
  case h_2=>cases hs
  rename_i r hr;simp at hs; obtain⟨rfl,rfl,_⟩:=hs;exact adj eI hh (bL he hg h2) (bL he hg h3) hr
 case h_12=>
  simp only[ae] at hk;obtain⟨⟨⟨h1,h2⟩,h3⟩,h4⟩:=hk;simp only[fi] at hs;split at hs
  case h_2=>cases hs
  rename_i e hr;simp at hs; obtain⟨rfl,rfl,_⟩:=hs;have:=ok_eq eI hh h1 h2 (bL he hg h3) (bL he hg h4) hr;simpa using this
 case h_13=>
  simp only[ae,decide_eq_true_eq] at hk;obtain⟨h1,h2⟩:=hk;subst h1;simp only[fi] at hs;split at hs
  case h_2=>cases hs
  rename_i r hr;simp at hs; obtain⟨rfl,rfl,_⟩:=hs;exact afm eI hh (bL he hg h2) hr
 case h_14=>
  simp only[ae] at hk;obtain⟨⟨h1,h2⟩,h3⟩:=hk;split at h2
  case h_2=>cases h2
  rename_i k' hu;simp at h2;subst h2;simp only[fi] at hs;split at hs
  case h_2=>cases hs
  rename_i k2 n hn;simp at hs; obtain⟨rfl,rfl,_⟩:=hs;have r:=bL (a:=a) he hg h3;rw[hn] at r;exact adg eI hh h1 hu r
 case h_15=>
  simp only[ae,decide_eq_true_eq] at hk;obtain⟨⟨h1,h2⟩,h3⟩:=hk;subst h1;simp[fi] at hs; obtain⟨hyf,rfl,rfl,_⟩:=hs;exact ac2 eI hh he hg h2 h3 hyf
 case h_16=>
  simp only[ae] at hk;obtain⟨⟨⟨h1,h2⟩,h3⟩,h4⟩:=hk;simp only[fi] at hs;split at hs
  case h_2=>cases hs
  rename_i k1 l k2 cp hl hcp;split at hs
  case isFalse=>cases hs
  rename_i hc;simp at hs; obtain⟨rfl,rfl,_⟩:=hs;have r1:=bL (a:=a) he hg h3;have r2:=bL (a:=a) he hg h4;rw[hl] at r1;rw[hcp] at r2;exact ac1 eI hh h1 h2 r1 r2 hc.1 hc.2.1 hc.2.2
 case h_17=>
  simp only[ae] at hk;obtain⟨⟨⟨h1,h2⟩,h3⟩,h4⟩:=hk;exact acZ eI hh he hg h1 h2 h3 h4 hs
 case h_18=>
  simp only[ae] at hk;exact adb eI hh (bL he hg hk.2) hk.1 hs
 case h_19=>
  simp only[ae] at hk;exact ada eI hh (bL he hg hk.2) hk.1 hs
 case h_20=>
  simp only[ae] at hk;exact ac8 eI hh (bL he hg hk.1.2) (bL he hg hk.2) hk.1.1 hs
 case h_21=>
  simp only[ae] at hk;exact ac7 eI hh (bL he hg hk.1.2) (bL he hg hk.2) hk.1.1 hs
 case h_22=>
  simp only[ae] at hk;exact afo eI hh (bL he hg hk.1.2) (bL he hg hk.2) hk.1.1 hs
 case h_23=>
  simp only[ae,decide_eq_true_eq] at hk;exact ac6 eI hh (bL he hg hk.2) hk.1.1 hk.1.2 hs
 case h_24=>
  rename_i args argTypes k zs x;split at hk
  case h_2=>cases hk
  rename_i x' t h1 h2;simp only[ae] at hk;exact adh (x:=x') (t:=t) eI rfl (gb.1 h1) (gb.1 h2) hh (bL he hg hk.2) hk.1.1 hk.1.2 hs
 case h_25=>
  simp only[ae,decide_eq_true_eq] at hk;obtain⟨h1,h2⟩:=hk;subst h1;simp only[fi] at hs;split at hs
  case h_2=>cases hs
  rename_i vs hv;split at hs
  case h_2=>cases hs
  rename_i u hu;simp at hs; obtain⟨rfl,rfl,_⟩:=hs;have r:=bL (a:=a) he hg h2;rw[hv] at r;exact ade eI hh r hu
 case h_26=>
  simp only[ae,decide_eq_true_eq] at hk;obtain⟨h1,h2⟩:=hk;subst h1;exact Zb cW dI eI rfl hh he hg h2 hs
 case h_27=>
  simp only[ae] at hk;exact VX cW dI eI rfl hh he hg hk.1 hk.2 hs
 case h_28=>
  rename_i args argTypes y;split at hk
  case h_2=>cases hk
  rename_i x t h1 h2;simp only[ae] at hk;exact ac4 (x:=x) (t:=t) eI rfl (gb.1 h1) (gb.1 h2) hh (bL he hg hk.2) hk.1 hs
 case h_29=>
  rename_i args argTypes k x y;split at hk
  case h_2=>cases hk
  rename_i x' y' t t' h1 h2;simp only[ae,decide_eq_true_eq] at hk;obtain⟨⟨⟨h3,h4⟩,h5⟩,h6⟩:=hk;subst h3;exact adl (x:=x') (y:=y') (t:=t) eI rfl (gb.1 h1) (gb.1 h2) hh (bL he hg h5) (bL he hg h6) h4 hs
 case h_30=>
  simp only[fi] at hs;split at hs
  case h_2=>cases hs
  rename_i r hr;simp at hs; obtain⟨rfl,rfl,_⟩:=hs;exact VS (mx:=false) eI rfl hh he hg hk hr
 case h_31=>
  simp only[fi] at hs;split at hs
  case h_2=>cases hs
  rename_i r hr;simp at hs; obtain⟨rfl,rfl,_⟩:=hs;exact VS (mx:=true) eI rfl hh he hg hk hr
 case h_32=>
  simp only[ae] at hk;exact adk eI hh he hg hk.2.2 (bL he hg hk.2.1) hk.1 hs
 case h_33=>
  rename_i args argTypes k x y;split at hk
  case h_2=>cases hk
  rename_i x' y' t t' h1 h2;simp only[ae] at hk;exact Za (x:=x') (y:=y') (t:=t) (t':=t') eI rfl (gb.1 h1) (gb.1 h2) hh (bL he hg hk.1.2) (bL he hg hk.2) hk.1.1 hs
 case h_34=>
  simp only[fi,af,aA] at hs; obtain⟨rfl,rfl,_⟩:=hs;exact Y5 eI hh
 case h_35=>
  simp only[ae,decide_eq_true_eq] at hk;obtain⟨⟨⟨rfl,h2⟩,h3⟩,h4⟩:=hk;split at h2
  case h_2=>cases h2
  rename_i key el hu;simp only[ae] at h2;simp only[fi] at hs;split at hs
  case h_2=>cases hs
  rename_i b hb;split at hs
  case h_2=>cases hs
  rename_i es TL;split at hs
  case isFalse=>cases hs
  rename_i hkq;split at hs
  case h_2=>cases hs
  rename_i r hr;simp only[af,aA] at hs; obtain⟨rfl,rfl,_⟩:=hs;exact Y8 eI hh hu h2.1 h2.2 (bL he hg h3) (bL he hg h4) hb TL hkq hr
 case h_36=>
  simp only[ae] at hk;obtain⟨⟨⟨h2,h3⟩,h4⟩,h5⟩:=hk;split at h2
  case h_2=>cases h2
  rename_i key el hu;simp only[fi] at hs;split at hs
  case h_2=>cases hs
  rename_i b hb;split at hs
  case h_2=>cases hs
  rename_i es TL;split at hs
  case isFalse=>cases hs
  rename_i hkq;split at hs
  case h_2=>cases hs
  rename_i r hr;simp only[af,aA] at hs; obtain⟨rfl,rfl,_⟩:=hs;exact Y4 eI hh hu h2 (bL he hg h3) (bL he hg h4) (bL he hg h5) hb TL hkq hr
 case h_37=>cases hs
 case h_38=>cases hk

structure SRel (X:Nat->Prop) (φ:cX) (w:World) (s:St) (a:Act) (N:Nat):Prop where
 env:oZ X φ w s.env a.tmps
 heap:bO X φ w s.H
 defers:a.defers=[]
 size:a.tmps.size=N

theorem Vn (a:Act) (d:Option Nat) (v:Value):(a.put d v).tmps.size=a.tmps.size/\(a.put d v).defers=a.defers:=by cases d<;>simp[Act.put]
theorem SRel.put {s:St} {N:Nat} {φ':cX} {w':World} {d:Option Nat} {v:AV} {v':Value} {H':Heap} (h:SRel X φ w s a N) (hd:∀i,d=some i->i<N) (r:bD (Rd X φ' w') φ' v v') (hh:bO X φ' w' H') (k:eT φ w φ' w') :
  SRel X φ' w' ⟨sT s.env d v,H'⟩ (a.put d v') N:=by
 obtain⟨h1,h2⟩:=Vn a d v';refine⟨?_,hh,by rw[h2]; exact h.defers,by rw[h1]; exact h.size⟩;cases d with
 |none=>exact h.env.nN k
 |some i=>exact (h.env.nN k).put (by rw[h.size]; exact hd i rfl) r
theorem TP {ts:Array Value} {g:Nat} {b:Bool} (h:ts.getD g undef=.bool b):ts[g]?=some (.bool b):=by
 rw[aW] at h;cases hg:ts[g]? with
 |none=>rw[hg] at h; simp[undef] at h
 |some v=>rw[hg] at h; simp at h; rw[h]
theorem N0 {ts:Array Value} {g:Nat} (h:ts.getD g undef=.tuple #[]):ts[g]?=none\/ts[g]?=some (.tuple #[]):=by
 rw[aW] at h;cases hg:ts[g]? with
 |none=>exact .inl rfl
 |some v=>rw[hg] at h; simp at h; rw[h]; exact .inr rfl

end
end Go.Am

/- Regions that draw their order: the order makes no difference. -/
namespace Go.Am
section
variable {P:Program} {c:dM} {call:Nat->List AV->Heap->Option (AV × Heap)}

theorem gk {e1 e2:Env} {x:E} (h:∀i∈x.slot,get e1 i=get e2 i):ev c e1 x=ev c e2 x:=by
 cases x with
 |t i=>exact h i (by simp[E.slot])
 |k x=>rfl
 |g i=>rfl
theorem nG {e1 e2:Env}:∀{xs:List E},(∀i∈mS xs,get e1 i=get e2 i)->CH c e1 xs=CH c e2 xs
 |[],_=>rfl
 |x::r,h=>by
   simp only[mS,aC] at h;simp only[CH];rw[gk fun i hi=>h i (.inl hi),nG fun i hi=>h i (.inr hi)]
theorem vU {e1 e2:Env}:∀{ps:List (Nat × Nat × E)} {zs:List AV},(∀i∈qz ps,get e1 i=get e2 i)->oW c e1 zs ps=oW c e2 zs ps
 |[],_,_=>by simp[oW]
 |(o,s,x)::r,zs,h=>by
   simp only[qz,aC] at h;simp only[oW];rw[gk fun i hi=>h i (.inl hi)];split
   ·exact vU fun i hi=>h i (.inr hi)
   ·rfl
theorem yX {e1 e2:Env} {d m:Nat} {x:Option E} (h:∀i∈Gl x,get e1 i=get e2 i):Ai c e1 d m x=Ai c e2 d m x:=by
 cases x with
 |none=>rfl
 |some x=>simp only[Ai]; rw[gk h]
theorem HH {e1 e2:Env} {H:Heap} {kd:Kd} (h:∀i∈kd.reads,get e1 i=get e2 i):fi c call e1 H kd=fi c call e2 H kd:=by
 cases kd<;>simp only[Kd.reads,aC] at h<;>simp only[fi]
 case pick x y z=>rw[gk fun i hi=>h i (.inl hi),gk fun i hi=>h i (.inr (.inl hi)),gk fun i hi=>h i (.inr (.inr hi))]
 case build=>rw[vU h]
 case eL=>rw[vU h]
 case FC k x lo hi=>rw[gk fun i hi=>h i (.inl hi)]; simp only[yX (c:=c) fun i hi=>h i (.inr (.inl hi)),yX (c:=c) fun i hi=>h i (.inr (.inr hi))]
 case F9 n x u=>simp only[gk (c:=c) fun i hi=>h i (.inl hi),yX (c:=c) fun i hi=>h i (.inr hi)]
 case call=>rw[nG h]
 case min=>rw[nG h]
 case max=>rw[nG h]
 case KJ=>rw[nG fun i hi=>h i (.inl hi),nG fun i hi=>h i (.inr hi)]
 case iR=>rw[gk fun i hi=>h i (.inl hi),nG fun i hi=>h i (.inr hi)]
 case yu kt x k v=>rw[gk (x:=x) fun i hi=>h i (.inl hi),gk (x:=k) fun i hi=>h i (.inr (.inl hi)),gk (x:=v) fun i hi=>h i (.inr (.inr hi))]
 all_goals first
  |rfl
  |rw[gk h]
  |rw[gk fun i hi=>h i (.inl hi),gk fun i hi=>h i (.inr hi)]
theorem Fa {H:Heap} {b b':Nat} {x:OP} (h:b≠b'):aN (H.set b x) b'=aN H b':=by
 unfold aN; rw[kf h]
theorem Fc {H T:Heap} {b:Nat} (h:b<H.length):aN (H++T) b=aN H b:=by
 unfold aN; rw[au h]
def Bt (fp:Fp) (H H':Heap) (v:AV) (f:Heap->Option (AV × Heap × Fp)):Prop:=
 (fp=.no->H'=H/\∀ H2,f H2=some (v,H2,.no))/\(∀b,fp=.rd b->H'=H/\∀ H2,aN H2 b=aN H b->f H2=some (v,H2,.rd b))/\(fp=.ra->H'=H) /\
 (∀n bs,fp=.wr n bs->∀b,b<n->b∉bs->aN H' b=aN H b)
theorem Bt.wr0 {H H':Heap} {v:AV} {f:Heap->Option (AV × Heap × Fp)}:Bt (.wr 0 []) H H' v f:=
 ⟨(fun h=>by cases h),(fun b h=>by cases h),(fun h=>by cases h),fun n bs h b hb=>by cases h; omega⟩
theorem Bt.no {H:Heap} {v:AV} {f:Heap->Option (AV × Heap × Fp)} (h:∀H2,f H2=some (v,H2,.no)):Bt .no H H v f:=
 ⟨fun _=>⟨rfl,h⟩,(fun b h=>by cases h),fun _=>rfl,(fun n bs h=>by cases h)⟩
theorem Bt.ra {H:Heap} {v:AV} {f:Heap->Option (AV × Heap × Fp)}:Bt .ra H H v f:=
 ⟨(fun h=>by cases h),(fun b h=>by cases h),fun _=>rfl,(fun n bs h=>by cases h)⟩
theorem Bt.rd {H:Heap} {v:AV} {b:Nat} {f:Heap->Option (AV × Heap × Fp)} (h:∀H2,aN H2 b=aN H b->f H2=some (v,H2,.rd b)):Bt (.rd b) H H v f:=
 ⟨(fun h=>by cases h),(fun b' hb=>by cases hb; exact⟨rfl,h⟩),fun _=>rfl,(fun n bs h=>by cases h)⟩
theorem Bt.wr {H H':Heap} {v:AV} {n:Nat} {bs:List Nat} {f:Heap->Option (AV × Heap × Fp)} (h:∀b,b<n->b∉bs->aN H' b=aN H b):Bt (.wr n bs) H H' v f:=
 ⟨(fun h=>by cases h),(fun b h=>by cases h),(fun h=>by cases h),fun n' bs' e=>by cases e; exact h⟩
theorem Hm {f:Nat} {args:List AV} {H H':Heap} {v:AV} {fl:Fp} (h:vW c call f args H=some (v,H',fl)):Bt fl H H' v (vW c call f args):=by
 unfold vW at h;split at h
 ·cases h
 ·split at h
  ·simp at h; obtain⟨_,_,rfl⟩:=h; exact .wr0
  ·cases h
 ·split at h
  ·split at h
   ·split at h
    ·simp at h; obtain⟨_,_,rfl⟩:=h; exact .wr0
    ·cases h
   ·cases h
  ·cases h
 ·rename_i q hf;split at h
  ·rename_i hp;split at h
   ·rename_i r H1 hr;split at h
    ·rename_i r' bs hz;simp at h;obtain⟨rfl,rfl,rfl⟩:=h;exact .no fun H2=>by simp[vW,hf,hp,hr,hz]
    ·cases h
   ·cases h
  ·split at h
   ·split at h
    ·split at h
     ·split at h
      ·simp at h; obtain⟨_,rfl,rfl⟩:=h; exact .ra
      ·simp at h; obtain⟨_,_,rfl⟩:=h; exact .wr0
     ·cases h
    ·cases h
   ·cases h
theorem X4 {env:Env} {H H':Heap} {kd:Kd} {v:AV} {fl:Fp} (h:fi c call env H kd=some (v,H',fl)):Bt fl H H' v (fun H2=>fi c call env H2 kd):=by
 have app:∀{T:Heap} (b:Nat),b<H.length->b∉([]:List Nat)->aN (H++T) b=aN H b:=fun b hb _=>Fc hb;have st:∀{x:OP} {b0:Nat} (b:Nat),b<H.length->b∉[b0]->aN (H.set b0 x) b=aN H b:=fun b _ hn=>Fa (by simp at hn; exact fun e=>hn e.symm)
 have mv:∀{x:OP} {T:Heap} {b0:Nat} (b:Nat),b<H.length->b∉[b0]->aN (H.set b0 x++T) b=aN H b:=fun b hb hn=>by
  rw[Fc (by simpa using hb)]; exact Fa (by simp at hn; exact fun e=>hn e.symm)
 have same:∀(b:Nat),b<H.length->b∉([]:List Nat)->aN H b=aN H b:=fun _ _ _=>rfl;cases kd
 case call f xs=>simp only[fi] at h ⊢; exact Hm h
 case iR x xs=>
  simp only[fi] at h ⊢;split at h
  ·exact Hm h
  ·cases h
 case ld ag x=>
  simp only[fi] at h ⊢;split at h
  ·rename_i cs hx;split at h
   ·rename_i u hu;simp at h;obtain⟨rfl,rfl,rfl⟩:=h;exact .no fun H2=>by simp[hu]
   ·cases h
  ·rename_i b off hx;split at h
   ·rename_i cs hb;split at h
    ·rename_i u hu;simp at h;obtain⟨rfl,rfl,rfl⟩:=h;exact .rd fun H2 h2=>by simp[h2,hb,hu]
    ·cases h
   ·cases h
  ·cases h
 case F9 n x hi=>
  simp only[fi] at h ⊢;split at h
  case h_2=>cases h
  rename_i m hm;split at h
  ·split at h
   ·rename_i hc;simp at h;obtain⟨rfl,rfl,rfl⟩:=h;exact .no fun H2=>by simp[hc]
   ·cases h
  ·rename_i b off hx;split at h
   ·rename_i cs hb;split at h
    ·rename_i hc;simp at h;obtain⟨rfl,rfl,rfl⟩:=h;exact .rd fun H2 h2=>by simp[h2,hb,hc]
    ·cases h
   ·cases h
  ·cases h
 case xz kt ok z x k=>
  simp only[fi] at h ⊢;split at h
  case h_2=>cases h
  rename_i b hx;split at h
  case h_2=>cases h
  rename_i es hb;split at h
  case isFalse=>cases h
  rename_i hq;split at h
  case h_2=>cases h
  rename_i r hr;simp at h;obtain⟨rfl,rfl,rfl⟩:=h;exact .rd fun H2 h2=>by simp[h2,hb,hq,hr]
 all_goals simp only[fi] at h ⊢
 all_goals
  (repeat' split at h)
  all_goals first
   |(cases h; done)
   |(simp at h; obtain⟨rfl,rfl,rfl⟩:=h; first|exact .wr app|exact .wr st|exact .wr mv|exact .wr same|(refine .no fun H2=>?_; simp_all; done))
def qx (c:dM) (call:Nat->List AV->Heap->Option (AV × Heap)) (env:Env) (H:Heap) (o:O):Option (AV × Heap × Fp):=
 match o.guard with
 |none=>fi c call env H o.kd
 |some (g,want)=>match get env g with
   |.bool b=>if b=want then fi c call env H o.kd else some (.undef,H,.no)
   |.undef=>some (.undef,H,.no)
   |_=>none
theorem u9 {e1 e2:Env} {H:Heap} {q:O} (h:∀i∈q.reads,get e1 i=get e2 i):qx c call e1 H q=qx c call e2 H q:=by
 unfold qx;unfold O.reads at h;simp only[aC] at h;cases hg:q.guard with
 |none=>simp only[hg] at h ⊢; exact HH fun i hi=>h i (.inr hi)
 |some p=>
   obtain⟨g,want⟩:=p;simp only[hg] at h ⊢;rw[h g (.inl (by simp)),HH fun i hi=>h i (.inr hi)]
theorem JK {env:Env} {H H':Heap} {q:O} {v:AV} {fl:Fp} (h:qx c call env H q=some (v,H',fl)):Bt fl H H' v (fun H2=>qx c call env H2 q):=by
 unfold qx at h ⊢;cases hg:q.guard with
 |none=>simp only[hg] at h ⊢; exact X4 h
 |some p=>
   obtain⟨g,want⟩:=p;simp only[hg] at h ⊢;split at h
   ·split at h
    ·rename_i NV; simp only[NV,if_true]; exact X4 h
    ·rename_i NV; simp only[NV,if_false]; simp at h; obtain⟨rfl,rfl,rfl⟩:=h; exact .no fun _=>rfl
   ·simp at h; obtain⟨rfl,rfl,rfl⟩:=h; exact .no fun _=>rfl
   ·cases h
theorem mem_iff {i:Nat}:∀{l:List Nat},mem i l=true ↔ i∈l
 |[]=>by simp[mem]
 |j::r=>by
   unfold mem;split
   ·rename_i h; simp[h]
   ·rename_i h; rw[mem_iff]; simp[h]
theorem jI {env:Env} {d:Option Nat} {v:AV} {i:Nat} (h:d≠some i):get (sT env d v) i=get env i:=by
 cases d with
 |none=>rfl
 |some d=>simp only[sT,bz]; rw[if_neg fun e=>h (by rw[e])]
theorem aak {env:Env} {H H1 H2:Heap} {x y:O} {v1 v2:AV} {f1 f2:Fp} (hx:qx c call env H x=some (v1,H1,f1)) (hy:qx c call (sT env x.dst v1) H1 y=some (v2,H2,f2))
  (Bf:iW x y=true) (hf:f1.ok f2=true) :
  ∃ H2',qx c call env H y=some (v2,H2',f2)/\qx c call (sT env y.dst v2) H2' x=some (v1,H2,f1)/\∀ i,get (sT (sT env x.dst v1) y.dst v2) i=get (sT (sT env y.dst v2) x.dst v1) i:=by
 have a1:∀d,x.dst=some d->d∉y.reads/\y.dst≠some d:=by
  intro d hd;simp only[iW,hd,ae,bn,decide_eq_true_eq] at Bf;refine⟨fun h=>?_,Bf.1.2⟩;have:=mem_iff.2 h;rw[Bf.1.1] at this;cases this
 have a2:∀d,y.dst=some d->d∉x.reads:=by
  intro d hd h;simp only[iW,hd,ae,bn] at Bf;have:=mem_iff.2 h;rw[Bf.2] at this;cases this
 have cy:∀Hq,qx c call (sT env x.dst v1) Hq y=qx c call env Hq y:=fun Hq=>u9 fun i hi=>jI fun e=>(a1 i e).1 hi;have cx:∀Hq,qx c call (sT env y.dst v2) Hq x=qx c call env Hq x:=fun Hq=>u9 fun i hi=>jI fun e=>a2 i e hi
 have he:∀i,get (sT (sT env x.dst v1) y.dst v2) i=get (sT (sT env y.dst v2) x.dst v1) i:=by
  intro i;by_cases h1:x.dst=some i
  ·have h2:=(a1 i h1).2;rw[jI h2,h1];simp[sT,bz]
  ·rw[jI (env:=sT env y.dst v2) h1];by_cases h2:y.dst=some i
   ·rw[h2]; simp[sT,bz]
   ·rw[jI h2,jI h2,jI h1]
 rw[cy] at hy;obtain⟨g0,g1,g2,g3⟩:=JK hx;obtain⟨k0,k1,k2,k3⟩:=JK hy;have nm:∀{b:Nat} {bs:List Nat},mem b bs=false->b∉bs:=fun h hm=>by rw[mem_iff.2 hm] at h; cases h
 cases f1 with
 |no=>
   obtain⟨rfl,h0⟩:=g0 rfl;exact⟨H2,hy,by rw[cx]; exact h0 H2,he⟩
 |rd b=>
   obtain⟨rfl,h0⟩:=g1 b rfl;cases f2 with
   |no=>obtain⟨rfl,_⟩:=k0 rfl; exact⟨_,hy,by rw[cx]; exact hx,he⟩
   |rd b'=>obtain⟨rfl,_⟩:=k1 b' rfl; exact⟨_,hy,by rw[cx]; exact hx,he⟩
   |ra=>obtain rfl:=k2 rfl; exact⟨_,hy,by rw[cx]; exact hx,he⟩
   |wr n bs=>
     simp only[Fp.ok,ae,decide_eq_true_eq,bn] at hf;exact⟨H2,hy,by rw[cx]; exact h0 H2 (k3 n bs rfl b hf.1 (nm hf.2)),he⟩
 |ra=>
   obtain rfl:=g2 rfl;cases f2 with
   |no=>obtain⟨rfl,_⟩:=k0 rfl; exact⟨_,hy,by rw[cx]; exact hx,he⟩
   |rd b'=>obtain⟨rfl,_⟩:=k1 b' rfl; exact⟨_,hy,by rw[cx]; exact hx,he⟩
   |ra=>obtain rfl:=k2 rfl; exact⟨_,hy,by rw[cx]; exact hx,he⟩
   |wr n bs=>simp[Fp.ok] at hf
 |wr n bs=>
   cases f2 with
   |no=>obtain⟨rfl,h0⟩:=k0 rfl; exact⟨H,h0 H,by rw[cx]; exact hx,he⟩
   |rd b=>
     obtain⟨rfl,h0⟩:=k1 b rfl;simp only[Fp.ok,ae,decide_eq_true_eq,bn] at hf;exact⟨H,h0 H (g3 n bs rfl b hf.1 (nm hf.2)).symm,by rw[cx]; exact hx,he⟩
   |ra=>simp[Fp.ok] at hf
   |wr n' bs'=>simp[Fp.ok] at hf

abbrev Ent:=Nat × Oper × O × Fp
def Jh (c:dM) (call:Nat->List AV->Heap->Option (AV × Heap)):List Ent->Env->Heap->Env->Heap->Prop
 |[],e,H,e',H'=>(∀i,get e i=get e' i)/\H=H'
 |p::r,e,H,e',H'=>∃v H1,qx c call e H p.2.2.1=some (v,H1,p.2.2.2)/\Jh c call r (sT e p.2.2.1.dst v) H1 e' H'
theorem Jh.congr:∀{R:List Ent} {e1 e2:Env} {H:Heap} {e':Env} {H':Heap},(∀i,get e1 i=get e2 i)->Jh c call R e1 H e' H'->Jh c call R e2 H e' H'
 |[],e1,e2,H,e',H',h,hr=>⟨fun i=>(h i).symm.trans (hr.1 i),hr.2⟩
 |p::r,e1,e2,H,e',H',h,⟨v,H1,h1,h2⟩=>by
   refine⟨v,H1,by rw[<-u9 fun i _=>h i]; exact h1,Jh.congr (fun i=>?_) h2⟩;cases hd:p.2.2.1.dst with
   |none=>exact h i
   |some d=>simp only[sT,bz]; rw[h i]
theorem Jh.Ja {x:Ent}:∀{R1 R2:List Ent} {e:Env} {H:Heap} {e':Env} {H':Heap},(∀p∈R1,iW p.2.2.1 x.2.2.1=true/\p.2.2.2.ok x.2.2.2=true)->Jh c call (R1++x::R2) e H e' H'->Jh c call (x::(R1++R2)) e H e' H'
 |[],R2,e,H,e',H',_,hr=>hr
 |p::R1,R2,e,H,e',H',h,⟨v,H1,h1,h2⟩=>by
   obtain⟨v2,H2,h3,h4⟩:=Jh.Ja (fun q hq=>h q (by simp[hq])) h2;obtain⟨Bf,hf⟩:=h p (by simp);obtain⟨H2',k1,k2,k3⟩:=aak h1 h3 Bf hf;exact⟨v2,H2',k1,v,H2,k2,h4.congr k3⟩

inductive Anc (ops:Array Oper) (i:Nat):Nat->Prop
 |one {j:Nat} {o:Oper} (ho:ops[j]?=some o) (h:i∈direct o):Anc ops i j
 |via {j k:Nat} {o:Oper} (ho:ops[j]?=some o) (h:k∈direct o) (ha:Anc ops i k):Anc ops i j
theorem yB {o:Oper} {i:Nat}:i∈direct o ↔ ∃e∈o.after,Region.binds .any e=true/\e.on=i:=by
 unfold direct;simp only[List.mem_map,List.mem_filter,MW];constructor
 ·rintro⟨e,⟨h1,h2⟩,h3⟩; exact⟨e,h1,h2,h3⟩
 ·rintro⟨e,h1,h2,h3⟩; exact⟨e,⟨h1,h2⟩,h3⟩
def ON (ops:Array Oper) (listed:Array Bool):Prop:=∀j o,ops[j]?=some o->listed.getD j false=true->∀i∈direct o,listed.getD i false=true
theorem ON.Aj {ops:Array Oper} {listed:Array Bool} (h:ON ops listed) {i j:Nat} (ha:Anc ops i j):∀o,ops[j]?=some o->(∀k∈direct o,listed.getD k false=true)->listed.getD i false=true:=by
 induction ha with
 |one ho hm=>intro o ho' hd; rw[ho] at ho'; cases ho'; exact hd _ hm
 |via ho hm ha ih=>
   intro o ho' hd;rw[ho] at ho';cases ho';have hk:=hd _ hm;cases ha with
   |one ho2 Yi=>exact h _ _ ho2 hk _ Yi
   |via ho2 Yi ha2=>exact ih _ ho2 fun l hl=>h _ _ ho2 hk l hl
def X9 (ops:Array Oper) (Aj:List (List Nat)):Prop:=∀j l,Aj[j]?=some l->∀i∈l,Anc ops i j
theorem xg {i:Nat}:∀{l:List Nat},i∈dedup l->i∈l
 |[],h=>by simp[dedup] at h
 |x::r,h=>by
   unfold dedup at h;split at h
   ·exact eH _ (xg h)
   ·rcases aK.1 h with h|h
    ·subst h; simp
    ·exact eH _ (xg h)
theorem Mr {ops:Array Oper} {Aj:List (List Nat)} (h:X9 ops Aj) {j:Nat} {o:Oper} (ho:ops[j]?=some o):∀i∈Fk Aj o,Anc ops i j:=by
 intro i hi;unfold Fk at hi;rcases aC.1 (xg hi) with hi|hi
 ·exact .one ho hi
 ·obtain⟨k,hk,tr⟩:=List.mem_flatMap.1 hi;refine .via ho (xg hk) ?_;rw[List.getD_eq_getElem?_getD] at tr;cases hl:Aj[k]? with
  |none=>rw[hl] at tr; simp at tr
  |some l=>rw[hl] at tr; exact h k l hl i tr
end
end Go.Am

/- A run of the compact code is a run of the dump's code; calls; the theorem that ties a call to the kit's 'Calls'. -/
namespace Go.Am
section
variable {P:Program} {c:dM}

def Ex.to:Ex->Exit
 |.normal=>.normal
 |.exit id=>.exit id
 |.ret=>.ret

def LW (P:Program) (cd:Code) (Q:Exit->Act->World->Prop) (a:Act) (w:World):Prop:=
 ∀ (b:Frame) (k:List Item) (cs:List Frame),∃e a' w',Q e a' w'/\Arrives P (lone (b.at a (.code cd::.inLoop cd::k)) cs w) b k cs e a' w'
theorem LW.loop {cd:Code} {Q:Exit->Act->World->Prop} {a:Act} {w:World} (h:LW P cd Q a w):(Code.loop cd).wp P Q a w:=by
 intro b k cs;obtain⟨e,a',w',hq,LJ⟩:=h b k cs;exact⟨e,a',w',hq,.of_steps (.one step_loop) LJ⟩
theorem LW.step {cd:Code} {Q:Exit->Act->World->Prop} {a:Act} {w:World} (h:cd.wp P (Exit.then (LW P cd Q) Q) a w):LW P cd Q a w:=by
 intro b k cs;obtain⟨e,a1,w1,hq,LJ⟩:=h b (.inLoop cd::k) cs;cases e with
 |normal=>
   obtain⟨e2,a2,w2,hq2,afN⟩:=hq b k cs;exact⟨e2,a2,w2,hq2,.of_steps (Steps.trans LJ (.one step_inLoop)) afN⟩
 |exit id=>exact⟨_,a1,w1,hq,.pass (x:=.inLoop cd) rfl (fun _ _=>.inl (by simp)) LJ⟩
 |goto l=>exact⟨_,a1,w1,hq,.pass (x:=.inLoop cd) rfl (fun _ _=>.inl (by simp)) LJ⟩
 |ret=>exact⟨_,a1,w1,hq,.pass (x:=.inLoop cd) rfl (fun _ _=>.inl (by simp)) LJ⟩
 |panic ch=>exact⟨_,a1,w1,hq,.pass (x:=.inLoop cd) rfl (fun _ _=>.inl (by simp)) LJ⟩
 |outgrown=>exact⟨_,a1,w1,hq,.pass (x:=.inLoop cd) rfl (fun _ _=>.inl (by simp)) LJ⟩

theorem ta:∀(args:List AV) (k i:Nat),get (dL k args) i=if k<=i then args[i-k]?.getD .any else .any
 |[],k,i=>by simp[dL,get]
 |x::r,k,i=>by
   simp only[dL,get];by_cases h:i=k
   ·subst h; simp
   ·rw[if_neg h,ta r (k+1) i];by_cases h2:k+1<=i
    ·rw[if_pos h2,if_pos (by omega),show i-k=(i-(k+1))+1 by omega,mR]
    ·rw[if_neg h2,if_neg (by omega)]
theorem UW {X:Nat->Prop} {φ:cX} {w:World} {s:St} {ts:Array Value} (he:oZ X φ w s.env ts) (hh:bO X φ w s.H):∀{rs:List ResultVar} {qs:List Rv} {xs:List AV},B7 P rs qs=true->JV s.H s.env qs=some xs ->
  ∃ vs:List Value,(rs.mapM (m:=Sem) fun
   |.tmp t=>pure (ts.getD t undef)
   |.cell a t=>do loadVar t (<- asAddr (ts.getD a undef))).run P w=.ok vs w/\Cs X φ w xs vs
 |[],[],xs,_,h=>by simp[JV] at h; subst h; exact⟨[],rfl,rfl,fun i c v hc=>by simp at hc⟩
 |[],_::_,_,h,_=>by simp[B7] at h
 |_::_,[],_,h,_=>by simp[B7] at h
 |r::rs,q::qs,xs,h,hx=>by
   simp only[B7,ae] at h;simp only[JV] at hx;split at hx
   case h_2=>cases hx
   rename_i x ys h1 h2;simp at hx;subst hx;obtain⟨vs,e1,e2⟩:=UW he hh h.2 h2
   have one:∃v,(match r with
    |.tmp t=>pure (ts.getD t undef)
    |.cell a t=>do loadVar t (<- asAddr (ts.getD a undef)):Sem Value).run P w=.ok v w/\bD (Rd X φ w) φ x v:=by
    have hr:=h.1;unfold chkR at hr;split at hr
    ·rename_i t i;simp at hr;subst hr;simp[UX] at h1;subst h1;exact⟨_,rfl,he _⟩
    ·rename_i a t i ag;simp only[ae,decide_eq_true_eq] at hr;obtain⟨rfl,zX⟩:=hr;have r:=he a;simp only[UX] at h1;split at h1
     ·rename_i b off hg;split at h1
      case h_2=>cases h1
      rename_i cs dB;rw[hg] at r;obtain⟨g,sz,arr,e,h3,_,_,_,_,_,_,h4⟩:=Jy.Ny hh dB r;obtain⟨u,h5,h6⟩:=Iv zX h1 h4;exact⟨u,by simp[h3,asAddr,h5],h6⟩
     ·rename_i cs hg;rw[hg] at r;obtain⟨ad,h3,h4⟩:=Jy.Q9 r;obtain⟨u,h5,h6⟩:=Iv zX h1 h4;exact⟨u,by simp[h3,asAddr,h5],h6⟩
     ·cases h1
    ·cases hr
   obtain⟨v,e3,e4⟩:=one;refine⟨v::vs,?_,by simp[e2.1],fun i c u hc hu=>?_⟩
   ·simp only[List.mapM_cons,Sem.run_bind,Sem.run_pure];rw[e3];simp only[Result.andThen_ok];rw[e1];simp only[Result.andThen_ok]
   ·cases i with
    |zero=>simp at hc hu; subst hc; subst hu; exact e4
    |succ i=>simp at hc hu; exact e2.2 i c u hc hu
theorem BA {X:Nat->Prop} {φ:cX} {w:World} {s:St} {ts:Array Value} {fn:Func} {qs:List Rv} {xs:List AV} (he:oZ X φ w s.env ts) (hh:bO X φ w s.H) (hc:B7 P fn.results.toList qs=true) (hx:JV s.H s.env qs=some xs) :
  ∃ v,(results fn ts).run P w=.ok v w/\bD (Rd X φ w) φ (nZ xs) v:=by
 obtain⟨vs,h1,h2⟩:=UW (P:=P) he hh hc hx
 have h3:(fn.results.mapM (m:=Sem) fun
   |.tmp t=>pure (ts.getD t undef)
   |.cell a t=>do loadVar t (<- asAddr (ts.getD a undef))).run P w=.ok vs.toArray w:=by
  rw[<-xw (xs:=fn.results),List.mapM_toArray];simp only[Sem.run_map];rw[h1];simp only[Result.andThen_ok]
 have h4:(results fn ts).run P w=(Result.ok vs.toArray w).andThen (fun (a:Array Value) w'=>(pure (if h:a.size=1 then a[0] else .tuple a):Sem Value).run P w'):=by
  unfold results;simp only[Sem.run_bind];exact congrArg (fun z=>Result.andThen z _) h3
 rw[h4];simp only[Result.andThen_ok,Sem.run_pure];refine⟨_,rfl,?_⟩;obtain⟨hl,hr⟩:=h2
 match xs,vs,hl,hr with
 |[],[],_,_=>exact .dA _ _ _ rfl fun i c v hc=>by simp at hc
 |[x],[v],_,hr=>exact hr 0 x v rfl rfl
 |x::y::xs,v::u::vs,hl,hr=>
   have e:¬((v::u::vs).toArray.size=1):=by simp
   rw[dif_neg e];exact .dA _ _ _ (by simpa using hl) fun i c z hc hz=>hr i c z hc (by simpa using hz)

end
end Go.Am
