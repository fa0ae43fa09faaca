/- An abstract machine, and its soundness against the model. -/
import Derived.WalkKit
import Derived.Laws.StructEq
import Derived.Laws.MakeOwn
import Derived.Scope
set_option linter.unusedVariables false
/- The abstract machine: values by value, a small heap of own blocks, and an interpreter with fuel for the compact code. -/
namespace Go.Am

inductive Rt where
 | s (i : Nat) | sc (i j : Nat) | c (b j : Nat)
 deriving DecidableEq,Inhabited
inductive AV where
 | any | undef | nilp | nilf | nils
 | int (k : IntKind) (n : Int)
 | bool (b : Bool)
 | str (s : ByteArray)
 | agg (cs : List AV)
 | tup (vs : List AV)
 | list (k : Nat) (xs : List AV)
 | fptr (cs : List AV)
 | ptr (b off : Nat)
 | sl (k b off len : Nat)
 | func (fn : Fn) (first caps : List AV)
 | own (k : Nat) (xs : List AV)
 | bor (k : Nat) (p : Rt) (off len : Nat)
 | pto (k : Nat) (p : Rt) (i off : Nat)
 deriving Inhabited

abbrev Blk := Option (List AV)
abbrev Heap := List Blk
abbrev Env := List (Nat × AV)

def LIM : Nat := 4294967296

def get : Env -> Nat -> AV
 | [],_ => .any
 | (j,u) :: r,i => if i = j then u else get r i
def put : Env -> Nat -> AV -> Env
 | [],i,v => [(i,v)]
 | (j,u) :: r,i,v => if i < j then (i,v) :: (j,u) :: r else if i = j then (i,v) :: r else (j,u) :: put r i v
def mem : Nat -> List Nat -> Bool
 | _,[] => false
 | i,j :: r => if i = j then true else mem i r
def keepIn (keep : List Nat) : Env -> Env
 | [] => []
 | (j,u) :: r => if mem j keep then (j,u) :: keepIn keep r else keepIn keep r
def putd (env : Env) (d : Option Nat) (v : AV) : Env :=
 match d with
 | some d => put env d v
 | none => env
def mkEnv : Nat -> List AV -> Env
 | _,[] => []
 | i,a :: r => (i,a) :: mkEnv (i + 1) r

def AV.cells : AV -> List AV
 | .agg cs => cs
 | x => [x]
def AV.leaf : AV -> Bool
 | .any | .undef | .agg _ | .tup _ => false
 | _ => true
def allLeaf : List AV -> Bool
 | [] => true
 | x :: r => x.leaf && allLeaf r

mutual
def AV.plain : AV -> Bool
 | .ptr _ _ | .sl _ _ _ _ => false
 | .agg cs => plainL cs
 | .tup cs => plainL cs
 | .func _ a b => plainL a && plainL b
 | _ => true
def plainL : List AV -> Bool
 | [] => true
 | x :: r => x.plain && plainL r
end
mutual
def AV.flat : AV -> Bool
 | .ptr _ _ | .sl _ _ _ _ | .list _ _ | .fptr _ => false
 | .agg cs => flatL cs
 | .tup cs => flatL cs
 | .func _ a b => flatL a && flatL b
 | _ => true
def flatL : List AV -> Bool
 | [] => true
 | x :: r => x.flat && flatL r
end
mutual
def AV.refsLt (n : Nat) : AV -> Bool
 | .ptr b _ => decide (b < n)
 | .sl _ b _ _ => decide (b < n)
 | .agg cs => refsLtL n cs
 | .tup cs => refsLtL n cs
 | .func _ a b => refsLtL n a && refsLtL n b
 | _ => true
def refsLtL (n : Nat) : List AV -> Bool
 | [] => true
 | x :: r => x.refsLt n && refsLtL n r
end
def heapOK (n : Nat) : Heap -> Bool
 | [] => true
 | none :: r => heapOK n r
 | some cs :: r => refsLtL n cs && heapOK n r

def blk (H : Heap) (b : Nat) : Option (List AV) :=
 match H[b]? with
 | some (some cs) => some cs
 | _ => none
def el : List AV -> AV
 | [.agg cs] => .agg [.agg cs]
 | [x] => x
 | cs => .agg cs
def grp (k : Nat) : Nat -> List AV -> List AV
 | 0,_ => []
 | n + 1,cs => el (cs.take k) :: grp k n (cs.drop k)
def mapF (f : AV -> Option (AV × List Nat)) : List AV -> Option (List AV × List Nat)
 | [] => some ([],[])
 | x :: r => match f x,mapF f r with
   | some (y,b),some (ys,bs) => some (y :: ys,b ++ bs)
   | _,_ => none
def frz (H : Heap) : Nat -> AV -> Option (AV × List Nat)
 | 0,_ => none
 | n + 1,x => match x with
   | .ptr b off => match blk H b with
     | some cs => match mapF (frz H n) (cs.drop off) with
       | some (ys,bs) => some (.fptr ys,b :: bs)
       | none => none
     | none => none
   | .sl k b off len => match blk H b with
     | some cs => if off + len * k <= cs.length then
       match mapF (frz H n) ((cs.drop off).take (len * k)) with
       | some (ys,bs) => some (.list k (grp k len ys),b :: bs)
       | none => none
       else none
     | none => none
   | .agg cs => match mapF (frz H n) cs with
     | some (ys,bs) => some (.agg ys,bs)
     | none => none
   | .tup cs => match mapF (frz H n) cs with
     | some (ys,bs) => some (.tup ys,bs)
     | none => none
   | .func f a c => match mapF (frz H n) a,mapF (frz H n) c with
     | some (ys,bs),some (zs,cs) => some (.func f ys zs,bs ++ cs)
     | _,_ => none
   | x => some (x,[])
def allGe (n : Nat) : List Nat -> Bool
 | [] => true
 | b :: r => decide (n <= b) && allGe n r
def kill : Heap -> List Nat -> Heap
 | H,[] => H
 | H,b :: r => kill (H.set b none) r
def DEEP : Nat := 8

inductive E where
 | t (i : Nat) | k (x : AV) | g (i : Nat)
 deriving Inhabited

inductive Et where
 | bool | str (ints : List Bool) | nsl | nptr | nfn
 deriving Inhabited

inductive Kd where
 | mv (x : E) | pick (c a b : E)
 | new (zs : List AV) | box (x : E)
 | build (zs : List AV) (parts : List (Nat × Nat × E))
 | bslice (k n : Nat) (zs : List AV) (parts : List (Nat × Nat × E))
 | ld (ag : Option Nat) (x : E) | st (k : Nat) (a v : E)
 | nilck (x : E)
 | bin (op : BinOp) (x y : E) | eq (neg : Bool) (t : Et) (x y : E) | un (op : UnOp) (x : E) | cvt (k : IntKind) (x : E)
 | mkf (fn : Fn) (first caps : List E)
 | mks (k : Nat) (zs : List AV) (len cap : E)
 | slc (k : Nat) (x : E) (lo hi : Option E)
 | fad (off : Nat) (x : E) | asl (n : Nat) (x : E) (hi : Option E) | fld (off : Nat) (ag : Option Nat) (x : E)
 | ixa (k : Nat) (x i : E) | ixp (n k : Nat) (x i : E) | ix (n k : Nat) (ag : Option Nat) (x i : E)
 | ext (i : Nat) (x : E)
 | call (f : Nat) (args : List E) | callv (x : E) (args : List E)
 | ixs (tab : List Nat) (i : E) | clr (k : Nat) (zs : List AV) (x : E)
 | len (x : E) | app (k : Nat) (x y : E) | min (xs : List E) | max (xs : List E) | copy (k : Nat) (x y : E)
 | bad
 deriving Inhabited

structure O where
 dst : Option Nat
 guard : Option (Nat × Bool)
 kd : Kd
 deriving Inhabited

def E.slot : E -> List Nat
 | .t i => [i]
 | _ => []
def slots : List E -> List Nat
 | [] => []
 | x :: r => x.slot ++ slots r
def slotsP : List (Nat × Nat × E) -> List Nat
 | [] => []
 | p :: r => p.2.2.slot ++ slotsP r
def slotO : Option E -> List Nat
 | some x => x.slot
 | none => []
def Kd.reads : Kd -> List Nat
 | .mv x | .box x | .ld _ x | .nilck x | .un _ x | .cvt _ x | .fad _ x | .fld _ _ x | .ext _ x | .len x => x.slot
 | .pick c a b => c.slot ++ (a.slot ++ b.slot)
 | .new _ => []
 | .bad => []
 | .ixs _ i => i.slot
 | .clr _ _ x => x.slot
 | .build _ ps | .bslice _ _ _ ps => slotsP ps
 | .st _ x y | .bin _ x y | .eq _ _ x y | .mks _ _ x y | .ixa _ x y | .ixp _ _ x y | .ix _ _ _ x y | .app _ x y | .copy _ x y => x.slot ++ y.slot
 | .mkf _ a b => slots a ++ slots b
 | .slc _ x lo hi => x.slot ++ (slotO lo ++ slotO hi)
 | .asl _ x hi => x.slot ++ slotO hi
 | .call _ xs | .min xs | .max xs => slots xs
 | .callv x xs => x.slot ++ slots xs
def Kd.pure : Kd -> Bool
 | .mv _ | .pick _ _ _ | .build _ _ | .nilck _ | .bin _ _ _ | .eq _ _ _ _ | .un _ _ | .cvt _ _ | .mkf _ _ _ | .slc _ _ _ _ | .fad _ _ | .fld _ _ _ | .ixa _ _ _ | .ixp _ _ _ _ | .ix _ _ _ _ _ | .ext _ _ | .ixs _ _ | .len _ | .min _ | .max _ => true
 | _ => false
def O.reads (o : O) : List Nat := (match o.guard with
 | some (g,_) => [g]
 | none => []) ++ o.kd.reads

inductive Fp where
 | no | rd (b : Nat) | ra | wr (n : Nat) (bs : List Nat)
 deriving Inhabited
def Fp.ok : Fp -> Fp -> Bool
 | .no,_ => true
 | _,.no => true
 | .rd _,.rd _ => true
 | .rd _,.ra => true
 | .ra,.rd _ => true
 | .ra,.ra => true
 | .rd b,.wr n bs => decide (b < n) && !mem b bs
 | .wr n bs,.rd b => decide (b < n) && !mem b bs
 | _,_ => false

inductive C where
 | skip | ret | exit (id : Nat)
 | reg (os : List O) (dr : Bool) (un : List (Nat × Nat)) (keep : List Nat)
 | seq (a b : C) | cond (c : E) (a b : C) | blk (id : Nat) (b : C) | loop (b : C)
 deriving Inhabited

inductive Md where | P | T | K
 deriving Inhabited
inductive Rv where | t (i : Nat) | c (i : Nat) (ag : Option Nat)
 deriving Inhabited
structure AFn where
 n : Nat
 np : Nat
 res : List Rv
 body : C
 deriving Inhabited
structure Cfg where
 fn : Nat -> Option (Md × AFn)
 gl : Nat -> List AV
 orc : Nat -> Option (List AV -> Heap -> Option (AV × Heap))

inductive Ex where | normal | exit (id : Nat) | ret
 deriving Inhabited
structure St where
 env : Env
 H : Heap
 deriving Inhabited

def ev (c : Cfg) (env : Env) : E -> AV
 | .t i => get env i
 | .k x => x
 | .g i => .fptr (c.gl i)
def evs (c : Cfg) (env : Env) : List E -> List AV
 | [] => []
 | x :: r => ev c env x :: evs c env r

def rdc (ag : Option Nat) (cs : List AV) : Option AV :=
 match ag with
 | some k => if k <= cs.length then some (.agg (cs.take k)) else none
 | none => cs.head?
def ovw (cs : List AV) (off : Nat) (vs : List AV) : List AV := cs.take off ++ vs ++ cs.drop (off + vs.length)
def idx (x : AV) (len : Nat) : Option Nat :=
 match x with
 | .int _ i => if 0 <= i /\ i < (len : Int) then some i.toNat else none
 | _ => none
def bnd (x : AV) (hi : Nat) : Option Nat :=
 match x with
 | .int _ i => if 0 <= i /\ i <= (hi : Int) then some i.toNat else none
 | _ => none
def bndO (c : Cfg) (env : Env) (dflt hi : Nat) : Option E -> Option Nat
 | none => some dflt
 | some x => bnd (ev c env x) hi
def fillA (c : Cfg) (env : Env) : List AV -> List (Nat × Nat × E) -> Option (List AV)
 | zs,[] => some zs
 | zs,(off,sz,x) :: r =>
   if (ev c env x).cells.length = sz /\ off + sz <= zs.length /\ allLeaf (ev c env x).cells = true then fillA c env (ovw zs off (ev c env x).cells) r else none

def arith (op : BinOp) (k : IntKind) (x y : Int) : Option AV :=
 match op with
 | .add => some (.int k (k.wrap (x + y)))
 | .sub => some (.int k (k.wrap (x - y)))
 | .mul => some (.int k (k.wrap (x * y)))
 | .quo => if y = 0 then none else some (.int k (k.wrap (x.tdiv y)))
 | .rem => if y = 0 then none else some (.int k (x.tmod y))
 | .and => some (.int k (bits .and k x y))
 | .or => some (.int k (bits .or k x y))
 | .xor => some (.int k (bits .xor k x y))
 | .andNot => some (.int k (bits .andNot k x y))
 | .eql => some (.bool (x == y))
 | .neq => some (.bool (x != y))
 | .lss => some (.bool (decide (x < y)))
 | .leq => some (.bool (decide (x <= y)))
 | .gtr => some (.bool (decide (y < x)))
 | .geq => some (.bool (decide (y <= x)))
 | _ => none
def eqc : List Bool -> List AV -> List AV -> Option Bool
 | [],[],[] => some true
 | true :: l,.int k a :: r,.int k' b :: s => if k = k' then match eqc l r s with
   | some e => some (a == b && e)
   | none => none
   else none
 | false :: l,.bool a :: r,.bool b :: s => match eqc l r s with
   | some e => some (a == b && e)
   | none => none
 | _,_,_ => none
def isNil : Et -> AV -> Option Bool
 | .nsl,.nils => some true
 | .nsl,.sl _ _ _ _ => some false
 | .nsl,.list _ (_ :: _) => some false
 | .nptr,.nilp => some true
 | .nptr,.ptr _ _ => some false
 | .nptr,.fptr _ => some false
 | .nfn,.nilf => some true
 | .nfn,.func _ _ _ => some false
 | _,_ => none
def eqA : Et -> AV -> AV -> Option Bool
 | .bool,.bool a,.bool b => some (a == b)
 | .str l,.agg xs,.agg ys => eqc l xs ys
 | .nsl,x,.nils => isNil .nsl x
 | .nptr,x,.nilp => isNil .nptr x
 | .nfn,x,.nilf => isNil .nfn x
 | _,_,_ => none
def binA (op : BinOp) (x y : AV) : Option AV :=
 match x,y with
 | .int k a,.int k' b => match op with
   | .shl => if b < 0 then none else some (.int k (k.wrap (a * 2 ^ (min b.toNat k.bits))))
   | .shr => if b < 0 then none else some (.int k (a.fdiv (2 ^ (min b.toNat k.bits))))
   | op => if k = k' then arith op k a b else none
 | _,_ => none
def unA (op : UnOp) (x : AV) : Option AV :=
 match op,x with
 | .neg,.int k n => some (.int k (k.wrap (0 - n)))
 | .xor,.int k n => some (.int k (bits .xor k (if k.signed then -1 else k.max) n))
 | .not,.bool b => some (.bool (!b))
 | _,_ => none
def flatCells : List AV -> List AV
 | [] => []
 | x :: r => x.cells ++ flatCells r
def sliceCells (H : Heap) (k : Nat) : AV -> Option (List AV × Nat)
 | .nils => some ([],0)
 | .list k' xs => if k' = k then some (flatCells xs,xs.length) else none
 | .sl k' b off len => match blk H b with
   | some cs => if k' = k /\ off + len * k <= cs.length then some ((cs.drop off).take (len * k),len) else none
   | none => none
 | _ => none
def lenA : AV -> Option Nat
 | .nils => some 0
 | .list _ xs => some xs.length
 | .sl _ _ _ len => some len
 | _ => none
def minF (mx : Bool) : AV -> List AV -> Option AV
 | x,[] => some x
 | .int k a,.int _ b :: r => minF mx (.int k (if mx then (if b > a then b else a) else (if b < a then b else a))) r
 | _,_ => none
def minA (mx : Bool) : List AV -> Option AV
 | .int k a :: r => minF mx (.int k a) r
 | _ => none
def rep (zs : List AV) : Nat -> List AV
 | 0 => []
 | n + 1 => zs ++ rep zs n

def doCall (c : Cfg) (call : Nat -> List AV -> Heap -> Option (AV × Heap)) (f : Nat) (args : List AV) (H : Heap) : Option (AV × Heap × Fp) :=
 match c.fn f with
 | none => none
 | some (.K,_) => match call f args H with
   | some (r,H') => some (r,H',.wr 0 [])
   | none => none
 | some (.T,_) => match call f args H with
   | some (r,H') => match frz H' DEEP r with
     | some (r',bs) => if H.length <= H'.length /\ allGe H.length bs = true /\ heapOK H.length (H'.take H.length) = true then some (r',H'.take H.length,.wr 0 []) else none
     | none => none
   | none => none
 | some (.P,_) => if plainL args then
   match call f args [] with
   | some (r,H') => match frz H' DEEP r with
     | some (r',_) => some (r',H,.no)
     | none => none
   | none => none
   else match mapF (frz H DEEP) args with
    | some (args',bs) => match call f args' [] with
      | some (r,H') => match frz H' DEEP r with
        | some (r',_) => if r'.flat then some (r',H,.ra) else some (r',kill H bs,.wr 0 [])
        | none => none
      | none => none
    | none => none

def aOp (c : Cfg) (call : Nat -> List AV -> Heap -> Option (AV × Heap)) (env : Env) (H : Heap) : Kd -> Option (AV × Heap × Fp)
 | .mv x => some (ev c env x,H,.no)
 | .pick t a b => match ev c env t with
   | .bool t => some (if t then ev c env a else ev c env b,H,.no)
   | _ => none
 | .new zs => some (.ptr H.length 0,H ++ [some zs],.wr H.length [])
 | .box x => if allLeaf (ev c env x).cells then some (.ptr H.length 0,H ++ [some (ev c env x).cells],.wr H.length []) else none
 | .build zs ps => match fillA c env zs ps with
   | some cs => some (.agg cs,H,.no)
   | none => none
 | .bslice k n zs ps => match fillA c env (rep zs n) ps with
   | some cs => if allLeaf cs then some (.sl k H.length 0 n,H ++ [some cs],.wr H.length []) else none
   | none => none
 | .ld ag x => match ev c env x with
   | .fptr cs => match rdc ag cs with
     | some v => some (v,H,.no)
     | none => none
   | .ptr b off => match blk H b with
     | some cs => match rdc ag (cs.drop off) with
       | some v => some (v,H,.rd b)
       | none => none
     | none => none
   | _ => none
 | .st k a v => match ev c env a with
   | .ptr b off => match blk H b with
     | some cs => if (ev c env v).cells.length = k /\ off + k <= cs.length /\ allLeaf (ev c env v).cells = true then
       some (.undef,H.set b (some (ovw cs off (ev c env v).cells)),.wr H.length [b]) else none
     | none => none
   | _ => none
 | .nilck x => match ev c env x with
   | .ptr b off => some (.ptr b off,H,.no)
   | .fptr cs => some (.fptr cs,H,.no)
   | .func (.func f) a b => some (.func (.func f) a b,H,.no)
   | _ => none
 | .bin op x y => match binA op (ev c env x) (ev c env y) with
   | some v => some (v,H,.no)
   | none => none
 | .eq ng t x y => match eqA t (ev c env x) (ev c env y) with
   | some e => some (.bool (if ng then !e else e),H,.no)
   | none => none
 | .un op x => match unA op (ev c env x) with
   | some v => some (v,H,.no)
   | none => none
 | .cvt k x => match ev c env x with
   | .int _ n => some (.int k (k.wrap n),H,.no)
   | _ => none
 | .mkf fn a b => some (.func fn (evs c env a) (evs c env b),H,.no)
 | .mks k zs l cp => match ev c env l,ev c env cp with
   | .int _ l,.int _ cp => if 0 <= l /\ l <= cp /\ cp <= (LIM : Int) then some (.sl k H.length 0 l.toNat,H ++ [some (rep zs l.toNat)],.wr H.length []) else none
   | _,_ => none
 | .slc k x lo hi => match lenA (ev c env x) with
   | some n => match bndO c env n n hi with
     | some h => match bndO c env 0 h lo with
       | some l => match ev c env x with
         | .nils => some (.nils,H,.no)
         | .list k' xs => if k' = k then some (.list k ((xs.take h).drop l),H,.no) else none
         | .sl k' b off _ => if k' = k then some (.sl k b (off + l * k) (h - l),H,.no) else none
         | _ => none
       | none => none
     | none => none
   | none => none
 | .fad off x => match ev c env x with
   | .ptr b o => some (.ptr b (o + off),H,.no)
   | .fptr cs => some (.fptr (cs.drop off),H,.no)
   | _ => none
 | .asl n x hi => match bndO c env n n hi with
   | some m => match ev c env x with
     | .fptr cs => if n <= cs.length /\ m = n /\ allLeaf (cs.take n) = true then some (.list 1 (cs.take n),H,.no) else none
     | .ptr b off => match blk H b with
       | some cs => if off + n <= cs.length then some (.sl 1 b off m,H,.rd b) else none
       | none => none
     | _ => none
   | none => none
 | .fld off ag x => match ev c env x with
   | .agg cs => match rdc ag (cs.drop off) with
     | some v => some (v,H,.no)
     | none => none
   | _ => none
 | .ixa k x i => match ev c env x with
   | .list k' xs => match idx (ev c env i) xs.length with
     | some j => if k' = k then match xs[j]? with
       | some v => some (.fptr v.cells,H,.no)
       | none => none
       else none
     | none => none
   | .sl k' b off len => match idx (ev c env i) len with
     | some j => if k' = k then some (.ptr b (off + j * k),H,.no) else none
     | none => none
   | _ => none
 | .ixp n k x i => match idx (ev c env i) n with
   | some j => match ev c env x with
     | .ptr b off => some (.ptr b (off + j * k),H,.no)
     | .fptr cs => some (.fptr (cs.drop (j * k)),H,.no)
     | _ => none
   | none => none
 | .ix n k ag x i => match idx (ev c env i) n with
   | some j => match ev c env x with
     | .agg cs => match rdc ag (cs.drop (j * k)) with
       | some v => some (v,H,.no)
       | none => none
     | _ => none
   | none => none
 | .ixs tab i => match idx (ev c env i) tab.length with
   | some j => match tab[j]? with
     | some v => some (.int .u8 v,H,.no)
     | none => none
   | none => none
 | .clr k zs x => match ev c env x with
   | .nils => some (.undef,H,.wr H.length [])
   | .list _ [] => some (.undef,H,.wr H.length [])
   | .sl k' b off len => if len = 0 then some (.undef,H,.wr H.length []) else match blk H b with
     | some cs => if k' = k /\ off + len * k <= cs.length then some (.undef,H.set b (some (ovw cs off (rep zs len))),.wr H.length [b]) else none
     | none => none
   | _ => none
 | .ext i x => match ev c env x with
   | .tup vs => match vs[i]? with
     | some v => some (v,H,.no)
     | none => none
   | _ => none
 | .call f args => doCall c call f (evs c env args) H
 | .callv x args => match ev c env x with
   | .func (.func f) a b => doCall c call f (a ++ evs c env args ++ b) H
   | _ => none
 | .len x => match lenA (ev c env x) with
   | some n => some (.int .i64 n,H,.no)
   | none => none
 | .app k x y => match sliceCells H k (ev c env y) with
   | some (news,m) => match ev c env x with
     | .nils => if m = 0 then some (.nils,H,.wr H.length []) else if m <= LIM /\ allLeaf news = true then some (.sl k H.length 0 m,H ++ [some news],.wr H.length []) else none
     | .sl k' b 0 n => match blk H b with
       | some cs => if k' = k /\ n * k <= cs.length /\ n + m <= LIM /\ allLeaf news = true then some (.sl k H.length 0 (n + m),H.set b none ++ [some (cs.take (n * k) ++ news)],.wr H.length [b]) else none
       | none => none
     | _ => none
   | none => none
 | .min xs => match minA false (evs c env xs) with
   | some v => some (v,H,.no)
   | none => none
 | .max xs => match minA true (evs c env xs) with
   | some v => some (v,H,.no)
   | none => none
 | .copy k x y => match sliceCells H k (ev c env y) with
   | some (news,m) => match ev c env x with
     | .nils => some (.int .i64 0,H,.wr H.length [])
     | .sl k' b off n => match blk H b with
       | some cs => if k' = k /\ off + n * k <= cs.length /\ allLeaf news = true then some (.int .i64 (min m n : Nat),H.set b (some (ovw cs off (news.take (min m n * k)))),.wr H.length [b]) else none
       | none => none
     | _ => none
   | none => none
 | .bad => none

def resA (H : Heap) (env : Env) : Rv -> Option AV
 | .t i => some (get env i)
 | .c i ag => match get env i with
   | .ptr b off => match blk H b with
     | some cs => rdc ag (cs.drop off)
     | none => none
   | .fptr cs => rdc ag cs
   | _ => none
def resL (H : Heap) (env : Env) : List Rv -> Option (List AV)
 | [] => some []
 | r :: rs => match resA H env r,resL H env rs with
   | some v,some vs => some (v :: vs)
   | _,_ => none
def tupOf : List AV -> AV
 | [x] => x
 | vs => .tup vs

end Go.Am

/- How abstract values stand for values of the model in a world. -/
namespace Go.Am

abbrev Phi := List (Option (Nat × Nat))
def Owned (φ : Phi) (g : Nat) : Prop := ∃ b sz : Nat,φ[b]? = some (some (g,sz))
def Rd (X : Nat -> Prop) (φ : Phi) (w : World) (a : Addr) (u : Value) : Prop := ¬ X a.block /\ ¬ Owned φ a.block /\ w.cell? a = some u

inductive Rep (R : Addr -> Value -> Prop) : Phi -> AV -> Value -> Prop
 | any (φ : Phi) (v : Value) : Rep R φ .any v
 | undef (φ : Phi) : Rep R φ .undef (.tuple #[])
 | nilp (φ : Phi) : Rep R φ .nilp (.pointer none)
 | nilf (φ : Phi) : Rep R φ .nilf .nilFunc
 | nils (φ : Phi) : Rep R φ .nils (.slice none 0 0)
 | int (φ : Phi) (k : IntKind) (n : Int) : Rep R φ (.int k n) (.int k n)
 | bool (φ : Phi) (b : Bool) : Rep R φ (.bool b) (.bool b)
 | str (φ : Phi) (s : ByteArray) : Rep R φ (.str s) (.string s)
 | agg (φ : Phi) (cs : List AV) (vs : Array Value) (hl : cs.length = vs.size) (h : ∀ (i : Nat) (c : AV) (v : Value),cs[i]? = some c -> vs[i]? = some v -> Rep R φ c v) : Rep R φ (.agg cs) (.agg vs)
 | tup (φ : Phi) (cs : List AV) (vs : Array Value) (hl : cs.length = vs.size) (h : ∀ (i : Nat) (c : AV) (v : Value),cs[i]? = some c -> vs[i]? = some v -> Rep R φ c v) : Rep R φ (.tup cs) (.tuple vs)
 | func (φ : Phi) (f : Fn) (as : List AV) (va : Array Value) (bs : List AV) (vb : Array Value) (hla : as.length = va.size) (hlb : bs.length = vb.size)
   (ha : ∀ (i : Nat) (c : AV) (v : Value),as[i]? = some c -> va[i]? = some v -> Rep R φ c v) (hb : ∀ (i : Nat) (c : AV) (v : Value),bs[i]? = some c -> vb[i]? = some v -> Rep R φ c v) : Rep R φ (.func f as bs) (.func f va vb)
 | lst (φ : Phi) (k : Nat) (xs : List AV) (a : Addr) (n cap : Nat) (u : Nat -> Nat -> Value) (hn : n = xs.length) (hcap : n <= cap) (hk : ∀ x ∈ xs,x.cells.length = k)
   (hu : ∀ (i j : Nat) (x c : AV),xs[i]? = some x -> x.cells[j]? = some c -> R (a.add (i * k + j)) (u i j))
   (h : ∀ (i j : Nat) (x c : AV),xs[i]? = some x -> x.cells[j]? = some c -> Rep R [] c (u i j)) : Rep R φ (.list k xs) (.slice (some a) n cap)
 | lst0 (φ : Phi) (k : Nat) : Rep R φ (.list k []) (.slice none 0 0)
 | fptr (φ : Phi) (cs : List AV) (a : Addr) (u : Nat -> Value) (hu : ∀ (j : Nat) (c : AV),cs[j]? = some c -> R (a.add j) (u j))
   (h : ∀ (j : Nat) (c : AV),cs[j]? = some c -> Rep R [] c (u j)) : Rep R φ (.fptr cs) (.pointer (some a))
 | ptr (φ : Phi) (b off : Nat) (a : Addr) (hb : b < φ.length) (h : ∀ g sz : Nat,φ[b]? = some (some (g,sz)) -> a = ⟨g,off,none⟩) : Rep R φ (.ptr b off) (.pointer (some a))
 | sl (φ : Phi) (k b off len : Nat) (a : Addr) (cap : Nat) (hb : b < φ.length) (hc : len <= cap)
   (h : ∀ g sz : Nat,φ[b]? = some (some (g,sz)) -> (0 < cap -> a = ⟨g,off,none⟩) /\ off + cap * k <= sz) : Rep R φ (.sl k b off len) (.slice (some a) len cap)

theorem getElem?_some_of {α : Type} {l : List α} {i : Nat} (h : i < l.length) : ∃ x,l[i]? = some x := ⟨l[i],List.getElem?_eq_getElem h⟩
theorem agetElem?_some_of {α : Type} {l : Array α} {i : Nat} (h : i < l.size) : ∃ x,l[i]? = some x := ⟨l[i],Array.getElem?_eq_getElem h⟩
theorem lt_of_getElem? {α : Type} {l : List α} {i : Nat} {x : α} (h : l[i]? = some x) : i < l.length := (List.getElem?_eq_some_iff.1 h).1
theorem alt_of_getElem? {α : Type} {l : Array α} {i : Nat} {x : α} (h : l[i]? = some x) : i < l.size := (Array.getElem?_eq_some_iff.1 h).1

structure PhiLe (φ φ' : Phi) : Prop where
 len : φ.length <= φ'.length
 old : ∀ (b : Nat) (p : Nat × Nat),b < φ.length -> φ'[b]? = some (some p) -> φ[b]? = some (some p)
theorem PhiLe.refl (φ : Phi) : PhiLe φ φ := ⟨Nat.le_refl _,fun _ _ _ h => h⟩
theorem PhiLe.trans {a b c : Phi} (h : PhiLe a b) (k : PhiLe b c) : PhiLe a c :=
 ⟨Nat.le_trans h.len k.len,fun i p hi hp => h.old i p hi (k.old i p (Nat.lt_of_lt_of_le hi h.len) hp)⟩

theorem Rep.mono {R R' : Addr -> Value -> Prop} (hR : ∀ a u,R a u -> R' a u) {φ : Phi} {x : AV} {v : Value} (h : Rep R φ x v) : ∀ {φ' : Phi},PhiLe φ φ' -> Rep R' φ' x v := by
 induction h with
 | any => intro φ' _; exact .any _ _
 | undef => intro φ' _; exact .undef _
 | nilp => intro φ' _; exact .nilp _
 | nilf => intro φ' _; exact .nilf _
 | nils => intro φ' _; exact .nils _
 | int => intro φ' _; exact .int _ _ _
 | bool => intro φ' _; exact .bool _ _
 | str => intro φ' _; exact .str _ _
 | agg φ cs vs hl h ih => intro φ' hp; exact .agg _ _ _ hl fun i c v h1 h2 => ih i c v h1 h2 hp
 | tup φ cs vs hl h ih => intro φ' hp; exact .tup _ _ _ hl fun i c v h1 h2 => ih i c v h1 h2 hp
 | func φ f as va bs vb hla hlb ha hb iha ihb => intro φ' hp; exact .func _ _ _ _ _ _ hla hlb (fun i c v h1 h2 => iha i c v h1 h2 hp) (fun i c v h1 h2 => ihb i c v h1 h2 hp)
 | lst φ k xs a n cap u hn hcap hk hu h ih => intro φ' _; exact .lst _ _ _ _ _ _ u hn hcap hk (fun i j x c h1 h2 => hR _ _ (hu i j x c h1 h2)) (fun i j x c h1 h2 => ih i j x c h1 h2 (.refl _))
 | lst0 => intro φ' _; exact .lst0 _ _
 | fptr φ cs a u hu h ih => intro φ' _; exact .fptr _ _ _ u (fun j c h1 => hR _ _ (hu j c h1)) (fun j c h1 => ih j c h1 (.refl _))
 | ptr φ b off a hb h => intro φ' hp; exact .ptr _ _ _ _ (Nat.lt_of_lt_of_le hb hp.len) fun g sz hg => h g sz (hp.old _ _ hb hg)
 | sl φ k b off len a cap hb hc h => intro φ' hp; exact .sl _ _ _ _ _ _ _ (Nat.lt_of_lt_of_le hb hp.len) hc fun g sz hg => h g sz (hp.old _ _ hb hg)

theorem plainL_mem {cs : List AV} (h : plainL cs = true) : ∀ (i : Nat) (c : AV),cs[i]? = some c -> c.plain = true := by
 induction cs with
 | nil => intro i c hc; simp at hc
 | cons x r ih =>
   simp only [plainL,Bool.and_eq_true] at h;intro i c hc;cases i with
   | zero => simp at hc; subst hc; exact h.1
   | succ i => simp at hc; exact ih h.2 i c hc
theorem flatL_mem {cs : List AV} (h : flatL cs = true) : ∀ (i : Nat) (c : AV),cs[i]? = some c -> c.flat = true := by
 induction cs with
 | nil => intro i c hc; simp at hc
 | cons x r ih =>
   simp only [flatL,Bool.and_eq_true] at h;intro i c hc;cases i with
   | zero => simp at hc; subst hc; exact h.1
   | succ i => simp at hc; exact ih h.2 i c hc
theorem refsLtL_mem {n : Nat} {cs : List AV} (h : refsLtL n cs = true) : ∀ (i : Nat) (c : AV),cs[i]? = some c -> c.refsLt n = true := by
 induction cs with
 | nil => intro i c hc; simp at hc
 | cons x r ih =>
   simp only [refsLtL,Bool.and_eq_true] at h;intro i c hc;cases i with
   | zero => simp at hc; subst hc; exact h.1
   | succ i => simp at hc; exact ih h.2 i c hc
theorem allLeaf_mem {cs : List AV} (h : allLeaf cs = true) : ∀ (i : Nat) (c : AV),cs[i]? = some c -> c.leaf = true := by
 induction cs with
 | nil => intro i c hc; simp at hc
 | cons x r ih =>
   simp only [allLeaf,Bool.and_eq_true] at h;intro i c hc;cases i with
   | zero => simp at hc; subst hc; exact h.1
   | succ i => simp at hc; exact ih h.2 i c hc

theorem Rep.of_plain {R : Addr -> Value -> Prop} {φ : Phi} {x : AV} {v : Value} (h : Rep R φ x v) : x.plain = true -> ∀ ψ,Rep R ψ x v := by
 induction h with
 | any => intro _ ψ; exact .any _ _
 | undef => intro _ ψ; exact .undef _
 | nilp => intro _ ψ; exact .nilp _
 | nilf => intro _ ψ; exact .nilf _
 | nils => intro _ ψ; exact .nils _
 | int => intro _ ψ; exact .int _ _ _
 | bool => intro _ ψ; exact .bool _ _
 | str => intro _ ψ; exact .str _ _
 | agg φ cs vs hl h ih => intro hp ψ; simp only [AV.plain] at hp; exact .agg _ _ _ hl fun i c v h1 h2 => ih i c v h1 h2 (plainL_mem hp i c h1) ψ
 | tup φ cs vs hl h ih => intro hp ψ; simp only [AV.plain] at hp; exact .tup _ _ _ hl fun i c v h1 h2 => ih i c v h1 h2 (plainL_mem hp i c h1) ψ
 | func φ f as va bs vb hla hlb ha hb iha ihb =>
   intro hp ψ;simp only [AV.plain,Bool.and_eq_true] at hp;exact .func _ _ _ _ _ _ hla hlb (fun i c v h1 h2 => iha i c v h1 h2 (plainL_mem hp.1 i c h1) ψ) (fun i c v h1 h2 => ihb i c v h1 h2 (plainL_mem hp.2 i c h1) ψ)
 | lst φ k xs a n cap u hn hcap hk hu h ih => intro _ ψ; exact .lst _ _ _ _ _ _ u hn hcap hk hu h
 | lst0 => intro _ ψ; exact .lst0 _ _
 | fptr φ cs a u hu h ih => intro _ ψ; exact .fptr _ _ _ u hu h
 | ptr => intro hp; simp [AV.plain] at hp
 | sl => intro hp; simp [AV.plain] at hp
theorem Rep.of_flat {R : Addr -> Value -> Prop} {φ : Phi} {x : AV} {v : Value} (h : Rep R φ x v) : x.flat = true -> ∀ (R' : Addr -> Value -> Prop) ψ,Rep R' ψ x v := by
 induction h with
 | any => intro _ _ ψ; exact .any _ _
 | undef => intro _ _ ψ; exact .undef _
 | nilp => intro _ _ ψ; exact .nilp _
 | nilf => intro _ _ ψ; exact .nilf _
 | nils => intro _ _ ψ; exact .nils _
 | int => intro _ _ ψ; exact .int _ _ _
 | bool => intro _ _ ψ; exact .bool _ _
 | str => intro _ _ ψ; exact .str _ _
 | agg φ cs vs hl h ih => intro hp R' ψ; simp only [AV.flat] at hp; exact .agg _ _ _ hl fun i c v h1 h2 => ih i c v h1 h2 (flatL_mem hp i c h1) R' ψ
 | tup φ cs vs hl h ih => intro hp R' ψ; simp only [AV.flat] at hp; exact .tup _ _ _ hl fun i c v h1 h2 => ih i c v h1 h2 (flatL_mem hp i c h1) R' ψ
 | func φ f as va bs vb hla hlb ha hb iha ihb =>
   intro hp R' ψ;simp only [AV.flat,Bool.and_eq_true] at hp;exact .func _ _ _ _ _ _ hla hlb (fun i c v h1 h2 => iha i c v h1 h2 (flatL_mem hp.1 i c h1) R' ψ) (fun i c v h1 h2 => ihb i c v h1 h2 (flatL_mem hp.2 i c h1) R' ψ)
 | lst => intro hp; simp [AV.flat] at hp
 | lst0 => intro hp; simp [AV.flat] at hp
 | fptr => intro hp; simp [AV.flat] at hp
 | ptr => intro hp; simp [AV.flat] at hp
 | sl => intro hp; simp [AV.flat] at hp
theorem Rep.take {R : Addr -> Value -> Prop} {φ : Phi} {x : AV} {v : Value} {n : Nat} (h : Rep R φ x v) : x.refsLt n = true -> Rep R (φ.take n) x v := by
 induction h with
 | any => intro _; exact .any _ _
 | undef => intro _; exact .undef _
 | nilp => intro _; exact .nilp _
 | nilf => intro _; exact .nilf _
 | nils => intro _; exact .nils _
 | int => intro _; exact .int _ _ _
 | bool => intro _; exact .bool _ _
 | str => intro _; exact .str _ _
 | agg φ cs vs hl h ih => intro hp; simp only [AV.refsLt] at hp; exact .agg _ _ _ hl fun i c v h1 h2 => ih i c v h1 h2 (refsLtL_mem hp i c h1)
 | tup φ cs vs hl h ih => intro hp; simp only [AV.refsLt] at hp; exact .tup _ _ _ hl fun i c v h1 h2 => ih i c v h1 h2 (refsLtL_mem hp i c h1)
 | func φ f as va bs vb hla hlb ha hb iha ihb =>
   intro hp;simp only [AV.refsLt,Bool.and_eq_true] at hp;exact .func _ _ _ _ _ _ hla hlb (fun i c v h1 h2 => iha i c v h1 h2 (refsLtL_mem hp.1 i c h1)) (fun i c v h1 h2 => ihb i c v h1 h2 (refsLtL_mem hp.2 i c h1))
 | lst φ k xs a n cap u hn hcap hk hu h ih => intro _; exact .lst _ _ _ _ _ _ u hn hcap hk hu h
 | lst0 => intro _; exact .lst0 _ _
 | fptr φ cs a u hu h ih => intro _; exact .fptr _ _ _ u hu h
 | ptr φ b off a hb h =>
   intro hp;have hp' : b < n := by simpa [AV.refsLt] using hp
   refine .ptr _ _ _ _ (by rw [List.length_take]; omega) fun g sz hg => h g sz ?_;rw [List.getElem?_take_of_lt hp'] at hg;exact hg
 | sl φ k b off len a cap hb hc h =>
   intro hp;have hp' : b < n := by simpa [AV.refsLt] using hp
   refine .sl _ _ _ _ _ _ _ (by rw [List.length_take]; omega) hc fun g sz hg => h g sz ?_;rw [List.getElem?_take_of_lt hp'] at hg;exact hg
theorem Rep.oneCell {R : Addr -> Value -> Prop} {φ : Phi} {x : AV} {v : Value} (h : Rep R φ x v) (hl : x.leaf = true) : v.oneCell' = true := by
 cases h <;> first | rfl | simp [AV.leaf] at hl

theorem Rep.cells {R : Addr -> Value -> Prop} {φ : Phi} {x : AV} {v : Value} (h : Rep R φ x v) (hs : allLeaf x.cells = true) :
  x.cells.length = v.cells.size /\ ∀ (i : Nat) (c : AV),x.cells[i]? = some c -> ∃ u,v.cells[i]? = some u /\ Rep R φ c u /\ u.oneCell' = true := by
 have one : ∀ {x : AV} {v : Value},x.cells = [x] -> v.cells = #[v] -> Rep R φ x v -> allLeaf x.cells = true ->
   x.cells.length = v.cells.size /\ ∀ (i : Nat) (c : AV),x.cells[i]? = some c -> ∃ u,v.cells[i]? = some u /\ Rep R φ c u /\ u.oneCell' = true := by
  intro x v hx hv h hs;rw [hx,hv];refine ⟨rfl,fun i c hc => ?_⟩;cases i with
  | zero =>
    simp at hc; subst hc;refine ⟨v,by simp,h,h.oneCell ?_⟩;rw [hx] at hs; simpa [allLeaf] using hs
  | succ i => simp at hc
 cases h with
 | any => simp [AV.cells,allLeaf,AV.leaf] at hs
 | agg φ cs vs hl h =>
   refine ⟨hl,fun i c hc => ?_⟩;have hi : i < vs.size := hl ▸ lt_of_getElem? hc;obtain ⟨u,hu⟩ := agetElem?_some_of hi;exact ⟨u,hu,h i c u hc hu,(h i c u hc hu).oneCell (allLeaf_mem hs i c hc)⟩
 | _ => exact one rfl rfl (by first | exact .undef _ | exact .nilp _ | exact .nilf _ | exact .nils _ | exact .int _ _ _ | exact .bool _ _ | exact .str _ _ | exact .lst0 _ _ | (constructor <;> assumption)) hs

structure HRel (X : Nat -> Prop) (φ : Phi) (w : World) (H : Heap) : Prop where
 len : φ.length = H.length
 xlt : ∀ g,X g -> g < w.heap.size
 live : ∀ (b : Nat) (cs : List AV),H[b]? = some (some cs) -> ∃ (g sz : Nat) (arr : Array Value) (e : TypeId),φ[b]? = some (some (g,sz)) /\ w.heap[g]? = some (.cells arr e (0,0)) /\ arr.size = sz /\ cs.length <= sz /\ ¬ X g /\
  ∀ (i : Nat) (c : AV),cs[i]? = some c -> ∃ u,arr[i]? = some u /\ Rep (Rd X φ w) φ c u
 dead : ∀ b : Nat,H[b]? = some none -> φ[b]? = some none
 inj : ∀ b b' g sz sz' : Nat,φ[b]? = some (some (g,sz)) -> φ[b']? = some (some (g,sz')) -> b = b'

structure Adv (φ : Phi) (w : World) (φ' : Phi) (w' : World) : Prop where
 os : w'.os = w.os
 tape : w'.tape = w.tape
 output : w'.output = w.output
 drawn : w.drawn <= w'.drawn
 size : w.heap.size <= w'.heap.size
 keep : ∀ g,g < w.heap.size -> ¬ Owned φ g -> w'.heap[g]? = w.heap[g]? /\ ¬ Owned φ' g
 phi : PhiLe φ φ'
theorem Adv.refl (φ : Phi) (w : World) : Adv φ w φ w := ⟨rfl,rfl,rfl,Nat.le_refl _,Nat.le_refl _,fun _ _ h => ⟨rfl,h⟩,.refl _⟩
theorem Adv.trans {φ φ' φ'' : Phi} {w w' w'' : World} (h : Adv φ w φ' w') (k : Adv φ' w' φ'' w'') : Adv φ w φ'' w'' :=
 ⟨k.os.trans h.os,k.tape.trans h.tape,k.output.trans h.output,Nat.le_trans h.drawn k.drawn,Nat.le_trans h.size k.size,
  fun g hg ho => ⟨(k.keep g (Nat.lt_of_lt_of_le hg h.size) (h.keep g hg ho).2).1.trans (h.keep g hg ho).1,(k.keep g (Nat.lt_of_lt_of_le hg h.size) (h.keep g hg ho).2).2⟩,h.phi.trans k.phi⟩
theorem Adv.rd {X : Nat -> Prop} {φ φ' : Phi} {w w' : World} (h : Adv φ w φ' w') : ∀ a u,Rd X φ w a u -> Rd X φ' w' a u := by
 intro a u ⟨h1,h2,h3⟩;have hlt := World.block_lt_of_cell? w a h3;exact ⟨h1,(h.keep _ hlt h2).2,(World.cell?_of_block (h.keep _ hlt h2).1).trans h3⟩
theorem Adv.rep {X : Nat -> Prop} {φ φ' : Phi} {w w' : World} (h : Adv φ w φ' w') {x : AV} {v : Value} (r : Rep (Rd X φ w) φ x v) : Rep (Rd X φ' w') φ' x v := r.mono h.rd h.phi
theorem Adv.drew (φ : Phi) (w : World) : Adv φ w φ w.drew := ⟨rfl,rfl,rfl,Nat.le_succ _,Nat.le_refl _,fun _ _ h => ⟨rfl,h⟩,.refl _⟩

def ERel (X : Nat -> Prop) (φ : Phi) (w : World) (env : Env) (tmps : Array Value) : Prop := ∀ i,Rep (Rd X φ w) φ (get env i) (tmps.getD i undef)
theorem get_put (env : Env) (d : Nat) (v : AV) (i : Nat) : get (put env d v) i = if i = d then v else get env i := by
 induction env with
 | nil => by_cases h : i = d <;> simp [put,get,h]
 | cons p r ih =>
   obtain ⟨j,u⟩ := p;unfold put;split
   ·by_cases h : i = d <;> simp [get,h]
   ·split
    ·rename_i h1 h2;subst h2;by_cases h : i = d <;> simp [get,h]
    ·rename_i h1 h2;simp only [get,ih];by_cases h : i = j
     ·subst h; simp [Ne.symm h2]
     ·simp [h]
theorem ERel.put {X : Nat -> Prop} {φ : Phi} {w : World} {env : Env} {tmps : Array Value} (h : ERel X φ w env tmps) {d : Nat} (hd : d < tmps.size) {x : AV} {v : Value} (r : Rep (Rd X φ w) φ x v) :
  ERel X φ w (put env d x) (tmps.setIfInBounds d v) := by
 intro i;rw [get_put];by_cases hi : i = d
 ·subst hi;simp [hd,r]
 ·have := h i;simpa [hi,Array.getElem?_setIfInBounds_ne (Ne.symm hi)] using this
theorem ERel.adv {X : Nat -> Prop} {φ φ' : Phi} {w w' : World} {env : Env} {tmps : Array Value} (h : ERel X φ w env tmps) (k : Adv φ w φ' w') : ERel X φ' w' env tmps := fun i => k.rep (h i)

theorem Addr.add_add (a : Addr) (n m : Nat) : (a.add n).add m = a.add (n + m) := by
 unfold Addr.add;by_cases hn : n = 0
 ·subst hn; simp
 ·by_cases hm : m = 0
  ·subst hm; simp [hn]
  ·simp [hn,hm,Nat.add_assoc]
theorem Addr.add_none (g o n : Nat) : Addr.add ⟨g,o,none⟩ n = ⟨g,o + n,none⟩ := Addr.add_lit g o n
end Go.Am

/- The heap relation under the steps of the machine; freezing. -/
namespace Go.Am

theorem blk_some {H : Heap} {b : Nat} {cs : List AV} (h : blk H b = some cs) : H[b]? = some (some cs) := by
 unfold blk at h;split at h
 ·rename_i h'; rw [h']; simpa using h
 ·cases h
theorem HRel.at {X : Nat -> Prop} {φ : Phi} {w : World} {H : Heap} (h : HRel X φ w H) {b : Nat} {cs : List AV} (hb : blk H b = some cs) :
  ∃ (g sz : Nat) (arr : Array Value) (e : TypeId),φ[b]? = some (some (g,sz)) /\ w.heap[g]? = some (.cells arr e (0,0)) /\ arr.size = sz /\ cs.length <= sz /\ ¬ X g /\
   ∀ (i : Nat) (c : AV),cs[i]? = some c -> ∃ u,arr[i]? = some u /\ Rep (Rd X φ w) φ c u := h.live b cs (blk_some hb)

theorem Owned.nil (g : Nat) : ¬ Owned [] g := fun ⟨b,sz,h⟩ => by simp at h
theorem owned_append {φ : Phi} {p : Nat × Nat} {g : Nat} (h : Owned (φ ++ [some p]) g) : Owned φ g \/ g = p.1 := by
 obtain ⟨b,sz,hb⟩ := h;by_cases hlt : b < φ.length
 ·rw [List.getElem?_append_left hlt] at hb;exact .inl ⟨b,sz,hb⟩
 ·rw [List.getElem?_append_right (by omega)] at hb
  have h0 : b - φ.length = 0 := by
   have := lt_of_getElem? hb;simp at this; omega
  rw [h0] at hb;simp at hb;right; rw [hb]
theorem owned_set {φ : Phi} {b g : Nat} (h : Owned (φ.set b none) g) : Owned φ g := by
 obtain ⟨c,sz,hc⟩ := h;refine ⟨c,sz,?_⟩;rw [List.getElem?_set] at hc;split at hc
 ·split at hc <;> simp at hc
 ·exact hc

theorem Adv.of_same {φ : Phi} {w w' : World} {ψ : Phi} (h : Adv [] w ψ w') : Adv φ w φ w' :=
 ⟨h.os,h.tape,h.output,h.drawn,h.size,fun g hg ho => ⟨(h.keep g hg (Owned.nil g)).1,ho⟩,.refl _⟩
theorem HRel.of_same {X : Nat -> Prop} {φ : Phi} {w w' : World} {H : Heap} {ψ : Phi} (h : HRel X φ w H) (a : Adv [] w ψ w') : HRel X φ w' H := by
 have k : Adv φ w φ w' := Adv.of_same a;refine ⟨h.len,fun g hg => Nat.lt_of_lt_of_le (h.xlt g hg) a.size,fun b cs hb => ?_,h.dead,h.inj⟩;obtain ⟨g,sz,arr,e,h1,h2,h3,h4,h5,h6⟩ := h.live b cs hb;refine ⟨g,sz,arr,e,h1,?_,h3,h4,h5,fun i c hc => ?_⟩
 ·rw [(a.keep g (Array.getElem?_eq_some_iff.1 h2).1 (Owned.nil g)).1]; exact h2
 ·obtain ⟨u,hu,r⟩ := h6 i c hc;exact ⟨u,hu,k.rep r⟩

theorem HRel.alloc {X : Nat -> Prop} {φ : Phi} {w w' : World} {H : Heap} (h : HRel X φ w H) {arr : Array Value} {e : TypeId} (hw : w'.heap = w.heap.push (.cells arr e (0,0)))
  (ho : w'.os = w.os) (ht : w'.tape = w.tape) (hp : w'.output = w.output) {cs : List AV} (hl : cs.length <= arr.size)
  (hc : ∀ (i : Nat) (c : AV),cs[i]? = some c -> ∃ u,arr[i]? = some u /\ Rep (Rd X φ w) φ c u) (hd : w.drawn <= w'.drawn) :
  HRel X (φ ++ [some (w.heap.size,arr.size)]) w' (H ++ [some cs]) /\ Adv φ w (φ ++ [some (w.heap.size,arr.size)]) w' := by
 have own : ∀ g,Owned φ g -> g < w.heap.size := by
  intro g ⟨b,sz,hb⟩;have hlt : b < H.length := h.len ▸ lt_of_getElem? hb;obtain ⟨x,hx⟩ := getElem?_some_of hlt;cases x with
  | none => rw [h.dead b hx] at hb; simp at hb
  | some cs =>
    obtain ⟨g',sz',arr,e,h1,h2,_⟩ := h.live b cs hx;rw [h1] at hb;simp at hb;rw [<- hb.1];exact (Array.getElem?_eq_some_iff.1 h2).1
 have a : Adv φ w (φ ++ [some (w.heap.size,arr.size)]) w' := by
  refine ⟨ho,ht,hp,hd,by rw [hw]; simp,fun g hg hn => ⟨?_,?_⟩,⟨by simp,fun b p hb hp => ?_⟩⟩
  ·rw [hw,Array.getElem?_push,if_neg (by omega)]
  ·intro ho;rcases owned_append ho with h1 | h1
   ·exact hn h1
   ·simp at h1; omega
  ·rwa [List.getElem?_append_left hb] at hp
 refine ⟨⟨by simp [h.len],fun g hg => ?_,fun b ds hb => ?_,fun b hb => ?_,fun b b' g sz sz' h1 h2 => ?_⟩,a⟩
 ·rw [hw]; have := h.xlt g hg; simp; omega
 ·by_cases hlt : b < H.length
  ·rw [List.getElem?_append_left hlt] at hb;obtain ⟨g,sz,ar,e',h1,h2,h3,h4,h5,h6⟩ := h.live b ds hb;refine ⟨g,sz,ar,e',by rw [List.getElem?_append_left (by rw [h.len]; exact hlt)]; exact h1,?_,h3,h4,h5,fun i c hc => ?_⟩
   ·rw [hw,Array.getElem?_push,if_neg (by have := (Array.getElem?_eq_some_iff.1 h2).1; omega)]; exact h2
   ·obtain ⟨u,hu,r⟩ := h6 i c hc;exact ⟨u,hu,a.rep r⟩
  ·have hb' := lt_of_getElem? hb;simp at hb';have hbe : b = H.length := by omega
   subst hbe;simp at hb;subst hb;refine ⟨w.heap.size,arr.size,arr,e,by rw [<- h.len]; simp,by rw [hw]; simp,rfl,hl,fun hx => by have := h.xlt _ hx; omega,fun i c hi => ?_⟩;obtain ⟨u,hu,r⟩ := hc i c hi;exact ⟨u,hu,a.rep r⟩
 ·by_cases hlt : b < H.length
  ·rw [List.getElem?_append_left hlt] at hb;rw [List.getElem?_append_left (by rw [h.len]; exact hlt)];exact h.dead b hb
  ·have hb' := lt_of_getElem? hb;simp at hb';have hbe : b = H.length := by omega
   subst hbe;simp at hb
 ·have new : ∀ (b g sz : Nat),(φ ++ [some (w.heap.size,arr.size)])[b]? = some (some (g,sz)) -> (b < φ.length /\ φ[b]? = some (some (g,sz)) /\ g < w.heap.size) \/ (b = φ.length /\ g = w.heap.size) := by
   intro b g sz hb;by_cases hlt : b < φ.length
   ·rw [List.getElem?_append_left hlt] at hb;exact .inl ⟨hlt,hb,own g ⟨b,sz,hb⟩⟩
   ·have hb' := lt_of_getElem? hb;simp at hb';have hbe : b = φ.length := by omega
    subst hbe;simp at hb;exact .inr ⟨rfl,hb.1.symm⟩
  rcases new b g sz h1 with ⟨l1,e1,g1⟩ | ⟨l1,g1⟩ <;> rcases new b' g sz' h2 with ⟨l2,e2,g2⟩ | ⟨l2,g2⟩
  ·exact h.inj b b' g sz sz' e1 e2
  ·omega
  ·omega
  ·omega

theorem HRel.store {X : Nat -> Prop} {φ : Phi} {w w' : World} {H : Heap} (h : HRel X φ w H) {b g sz : Nat} {arr arr' : Array Value} {e : TypeId} {cs' : List AV}
  (hφ : φ[b]? = some (some (g,sz))) (hg : w.heap[g]? = some (.cells arr e (0,0))) (hsz : arr.size = sz) (hs : arr'.size = arr.size) (hw : w' = w.setRow g arr') (hX : ¬ X g)
  (hl : cs'.length <= arr'.size) (hc : ∀ (i : Nat) (c : AV),cs'[i]? = some c -> ∃ u,arr'[i]? = some u /\ Rep (Rd X φ w) φ c u) :
  HRel X φ w' (H.set b (some cs')) /\ Adv φ w φ w' := by
 subst hw;have a : Adv φ w φ (w.setRow g arr') := ⟨rfl,rfl,rfl,Nat.le_refl _,by simp,fun k _ ho => ⟨setRow_other w g k _ (fun e => ho ⟨b,sz,e ▸ hφ⟩),ho⟩,.refl _⟩;refine ⟨⟨by simp [h.len],fun k hk => by simpa using h.xlt k hk,fun c ds hb => ?_,fun c hb => ?_,h.inj⟩,a⟩
 ·rw [List.getElem?_set] at hb;split at hb
  ·rename_i hbc;subst hbc;split at hb
   ·simp at hb;subst hb;refine ⟨g,sz,arr',e,hφ,setRow_heap w g arr arr' e _ hg,by omega,by omega,hX,fun i c hi => ?_⟩;obtain ⟨u,hu,r⟩ := hc i c hi;exact ⟨u,hu,a.rep r⟩
   ·simp at hb
  ·rename_i hbc;obtain ⟨g',sz',ar,e',h1,h2,h3,h4,h5,h6⟩ := h.live c ds hb;refine ⟨g',sz',ar,e',h1,?_,h3,h4,h5,fun i c hi => ?_⟩
   ·rw [setRow_other w g g' _ (fun eq => hbc (h.inj b c g sz sz' hφ (eq ▸ h1)))]; exact h2
   ·obtain ⟨u,hu,r⟩ := h6 i c hi;exact ⟨u,hu,a.rep r⟩
 ·rw [List.getElem?_set] at hb;split at hb
  ·split at hb <;> simp at hb
  ·exact h.dead c hb

theorem HRel.kill1 {X : Nat -> Prop} {φ : Phi} {w : World} {H : Heap} (h : HRel X φ w H) (b : Nat) : HRel X (φ.set b none) w (H.set b none) /\ Adv φ w (φ.set b none) w := by
 have a : Adv φ w (φ.set b none) w := by
  refine ⟨rfl,rfl,rfl,Nat.le_refl _,Nat.le_refl _,fun g _ ho => ⟨rfl,fun hx => ho (owned_set hx)⟩,⟨by simp,fun c p hc hp => ?_⟩⟩;rw [List.getElem?_set] at hp;split at hp
  ·split at hp <;> simp at hp
  ·exact hp
 refine ⟨⟨by simp [h.len],h.xlt,fun c ds hb => ?_,fun c hb => ?_,fun c c' g sz sz' h1 h2 => ?_⟩,a⟩
 ·rw [List.getElem?_set] at hb;split at hb
  ·split at hb <;> simp at hb
  ·rename_i hbc;obtain ⟨g',sz',ar,e',h1,h2,h3,h4,h5,h6⟩ := h.live c ds hb;refine ⟨g',sz',ar,e',?_,h2,h3,h4,h5,fun i c hi => ?_⟩
   ·rw [List.getElem?_set,if_neg hbc]; exact h1
   ·obtain ⟨u,hu,r⟩ := h6 i c hi;exact ⟨u,hu,a.rep r⟩
 ·rw [List.getElem?_set] at hb ⊢;split at hb
  ·rename_i hbc;rw [if_pos hbc];split at hb
   ·rename_i hlt;rw [if_pos (by rw [h.len]; exact hlt)]
   ·simp at hb
  ·rename_i hbc;rw [if_neg hbc];exact h.dead c hb
 ·have un : ∀ (c g sz : Nat),(φ.set b none)[c]? = some (some (g,sz)) -> φ[c]? = some (some (g,sz)) := by
   intro c g sz hc;rw [List.getElem?_set] at hc;split at hc
   ·split at hc <;> simp at hc
   ·exact hc
  exact h.inj c c' g sz sz' (un c g sz h1) (un c' g sz' h2)
def killP : Phi -> List Nat -> Phi
 | φ,[] => φ
 | φ,b :: r => killP (φ.set b none) r
theorem HRel.kill {X : Nat -> Prop} {w : World} : ∀ (bs : List Nat) {φ : Phi} {H : Heap},HRel X φ w H -> HRel X (killP φ bs) w (kill H bs) /\ Adv φ w (killP φ bs) w
 | [],φ,H,h => ⟨h,.refl _ _⟩
 | b :: r,φ,H,h => by
   obtain ⟨h1,a1⟩ := h.kill1 b;obtain ⟨h2,a2⟩ := HRel.kill r h1;exact ⟨h2,a1.trans a2⟩
theorem killP_sub : ∀ (bs : List Nat) (φ : Phi) (c : Nat) (p : Nat × Nat),(killP φ bs)[c]? = some (some p) -> φ[c]? = some (some p) /\ c ∉ bs
 | [],φ,c,p,h => ⟨h,by simp⟩
 | b :: r,φ,c,p,h => by
   obtain ⟨h1,h2⟩ := killP_sub r (φ.set b none) c p h;rw [List.getElem?_set] at h1;split at h1
   ·split at h1 <;> simp at h1
   ·rename_i hbc;exact ⟨h1,by simp [h2]; exact fun e => hbc e.symm⟩

theorem HRel.move {X : Nat -> Prop} {φ : Phi} {w w' : World} {H : Heap} (h : HRel X φ w H) {b g sz : Nat} {arr arr' : Array Value} {e : TypeId} {cs' : List AV}
  (hφ : φ[b]? = some (some (g,sz))) (hg : w.heap[g]? = some (.cells arr e (0,0))) (hsz : arr.size = sz) (hs : arr'.size = arr.size) (hw : w' = w.setRow g arr') (hX : ¬ X g)
  (hl : cs'.length <= arr'.size) (hc : ∀ (i : Nat) (c : AV),cs'[i]? = some c -> ∃ u,arr'[i]? = some u /\ Rep (Rd X φ w) φ c u) :
  HRel X (φ.set b none ++ [some (g,sz)]) w' (H.set b none ++ [some cs']) /\ Adv φ w (φ.set b none ++ [some (g,sz)]) w' := by
 subst hw;have hbl : b < φ.length := lt_of_getElem? hφ
 have look : ∀ (c : Nat) (p : Nat × Nat),(φ.set b none ++ [some (g,sz)])[c]? = some (some p) -> (c < φ.length /\ c ≠ b /\ φ[c]? = some (some p)) \/ (c = φ.length /\ p = (g,sz)) := by
  intro c p hc;by_cases hlt : c < φ.length
  ·rw [List.getElem?_append_left (by simpa using hlt),List.getElem?_set] at hc;split at hc
   ·simp_all
   ·rename_i hbc; exact .inl ⟨hlt,fun e => hbc e.symm,hc⟩
  ·have hb' := lt_of_getElem? hc;simp at hb';have hbe : c = φ.length := by omega
   subst hbe;rw [List.getElem?_append_right (by simp)] at hc;simp at hc;exact .inr ⟨rfl,hc.symm⟩
 have a : Adv φ w (φ.set b none ++ [some (g,sz)]) (w.setRow g arr') := by
  refine ⟨rfl,rfl,rfl,Nat.le_refl _,by simp,fun k _ ho => ⟨setRow_other w g k _ (fun e => ho ⟨b,sz,e ▸ hφ⟩),?_⟩,⟨by simp,fun c p hc hp => ?_⟩⟩
  ·intro ⟨c,s,hc⟩;rcases look c _ hc with ⟨_,_,h1⟩ | ⟨_,h1⟩
   ·exact ho ⟨c,s,h1⟩
   ·simp at h1; exact ho ⟨b,sz,h1.1 ▸ hφ⟩
  ·rcases look c p hp with ⟨_,_,h1⟩ | ⟨h1,_⟩
   ·exact h1
   ·omega
 refine ⟨⟨by simp [h.len],fun k hk => by simpa using h.xlt k hk,fun c ds hb => ?_,fun c hb => ?_,fun c c' k s s' h1 h2 => ?_⟩,a⟩
 ·by_cases hlt : c < H.length
  ·rw [List.getElem?_append_left (by simpa using hlt),List.getElem?_set] at hb;split at hb
   ·split at hb <;> simp at hb
   ·rename_i hbc;obtain ⟨g',sz',ar,e',h1,h2,h3,h4,h5,h6⟩ := h.live c ds hb;refine ⟨g',sz',ar,e',?_,?_,h3,h4,h5,fun i c hi => ?_⟩
    ·rw [List.getElem?_append_left (by simp [h.len,hlt]),List.getElem?_set,if_neg hbc]; exact h1
    ·rw [setRow_other w g g' _ (fun eq => hbc (h.inj b c g sz sz' hφ (eq ▸ h1)))]; exact h2
    ·obtain ⟨u,hu,r⟩ := h6 i c hi;exact ⟨u,hu,a.rep r⟩
  ·have hb' := lt_of_getElem? hb;simp at hb';have hbe : c = H.length := by omega
   subst hbe;rw [List.getElem?_append_right (by simp)] at hb;simp at hb;subst hb;refine ⟨g,sz,arr',e,?_,setRow_heap w g arr arr' e _ hg,by omega,by omega,hX,fun i c hi => ?_⟩
   ·rw [List.getElem?_append_right (by simp [h.len])]; simp [h.len]
   ·obtain ⟨u,hu,r⟩ := hc i c hi;exact ⟨u,hu,a.rep r⟩
 ·by_cases hlt : c < H.length
  ·rw [List.getElem?_append_left (by simpa using hlt),List.getElem?_set] at hb;rw [List.getElem?_append_left (by simp [h.len,hlt]),List.getElem?_set];split at hb
   ·rename_i hbc;rw [if_pos hbc,if_pos (by omega)]
   ·rename_i hbc;rw [if_neg hbc]; exact h.dead c hb
  ·have hb' := lt_of_getElem? hb;simp at hb';have hbe : c = H.length := by omega
   subst hbe;rw [List.getElem?_append_right (by simp)] at hb;simp at hb
 ·rcases look c _ h1 with ⟨l1,n1,e1⟩ | ⟨l1,e1⟩ <;> rcases look c' _ h2 with ⟨l2,n2,e2⟩ | ⟨l2,e2⟩
  ·exact h.inj c c' k s s' e1 e2
  ·simp at e2; exact absurd (h.inj c b k s sz e1 (e2.1 ▸ hφ)) n1
  ·simp at e1; exact absurd (h.inj c' b k s' sz e2 (e1.1 ▸ hφ)) n2
  ·omega

theorem heapOK_mem {n : Nat} : ∀ {H : Heap},heapOK n H = true -> ∀ (b : Nat) (cs : List AV),H[b]? = some (some cs) -> refsLtL n cs = true
 | [],_,b,cs,hb => by simp at hb
 | none :: r,h,b,cs,hb => by
   cases b with
   | zero => simp at hb
   | succ b => simp at hb; exact heapOK_mem (H := r) (by simpa [heapOK] using h) b cs hb
 | some ds :: r,h,b,cs,hb => by
   simp only [heapOK,Bool.and_eq_true] at h;cases b with
   | zero => simp at hb; subst hb; exact h.1
   | succ b => simp at hb; exact heapOK_mem (H := r) h.2 b cs hb
theorem owned_take {φ : Phi} {n g : Nat} (h : Owned (φ.take n) g) : Owned φ g := by
 obtain ⟨b,sz,hb⟩ := h;rw [List.getElem?_take] at hb;split at hb
 ·exact ⟨b,sz,hb⟩
 ·simp at hb
theorem rd_take {X : Nat -> Prop} {φ : Phi} {w : World} {n : Nat} : ∀ a u,Rd X φ w a u -> Rd X (φ.take n) w a u := fun _ _ ⟨h1,h2,h3⟩ => ⟨h1,fun h => h2 (owned_take h),h3⟩
theorem HRel.take {X : Nat -> Prop} {φ : Phi} {w : World} {H : Heap} (h : HRel X φ w H) {n : Nat} (hn : n <= H.length) (hok : heapOK n (H.take n) = true) : HRel X (φ.take n) w (H.take n) := by
 refine ⟨by simp [h.len],h.xlt,fun b cs hb => ?_,fun b hb => ?_,fun b b' g sz sz' h1 h2 => ?_⟩
 ·have hr := heapOK_mem hok b cs hb;have hlt : b < n := by have := lt_of_getElem? hb; simp at this; omega
  rw [List.getElem?_take_of_lt hlt] at hb;obtain ⟨g,sz,ar,e,h1,h2,h3,h4,h5,h6⟩ := h.live b cs hb;refine ⟨g,sz,ar,e,by rw [List.getElem?_take_of_lt hlt]; exact h1,h2,h3,h4,h5,fun i c hi => ?_⟩;obtain ⟨u,hu,r⟩ := h6 i c hi;exact ⟨u,hu,(r.take (refsLtL_mem hr i c hi)).mono rd_take (.refl _)⟩
 ·have hlt : b < n := by have := lt_of_getElem? hb; simp at this; omega
  rw [List.getElem?_take_of_lt hlt] at hb ⊢;exact h.dead b hb
 ·rw [List.getElem?_take] at h1 h2;split at h1 <;> split at h2 <;> first | exact h.inj b b' g sz sz' h1 h2 | (first | simp at h1 | simp at h2)
theorem Adv.take {φ φ' : Phi} {w w' : World} (h : Adv φ w φ' w') : Adv φ w (φ'.take φ.length) w' :=
 ⟨h.os,h.tape,h.output,h.drawn,h.size,fun g hg ho => ⟨(h.keep g hg ho).1,fun hx => (h.keep g hg ho).2 (owned_take hx)⟩,
  ⟨by rw [List.length_take]; have := h.phi.len; omega,fun b p hb hp => h.phi.old b p hb (by rwa [List.getElem?_take_of_lt hb] at hp)⟩⟩

/-! Freezing -/
theorem mapF_spec {f : AV -> Option (AV × List Nat)} : ∀ {xs ys : List AV} {bs : List Nat},mapF f xs = some (ys,bs) ->
  ys.length = xs.length /\ ∀ (i : Nat) (x : AV),xs[i]? = some x -> ∃ y b,f x = some (y,b) /\ ys[i]? = some y /\ ∀ c ∈ b,c ∈ bs
 | [],ys,bs,h => by simp [mapF] at h; obtain ⟨rfl,rfl⟩ := h; exact ⟨rfl,fun i x hx => by simp at hx⟩
 | x :: r,ys,bs,h => by
   simp only [mapF] at h;split at h
   ·rename_i y b ys' bs' h1 h2;simp at h;obtain ⟨rfl,rfl⟩ := h;obtain ⟨hl,hm⟩ := mapF_spec h2;refine ⟨by simp [hl],fun i z hz => ?_⟩;cases i with
    | zero => simp at hz; subst hz; exact ⟨y,b,h1,by simp,fun c hc => by simp [hc]⟩
    | succ i =>
      simp at hz;obtain ⟨y',b',e1,e2,e3⟩ := hm i z hz;exact ⟨y',b',e1,by simpa using e2,fun c hc => by simp [e3 c hc]⟩
   ·cases h
theorem el_cells (l : List AV) : (el l).cells = l := by
 unfold el;split <;> first | rfl | skip
 rename_i x hx;cases x <;> first | rfl | (exact absurd rfl (hx _))
theorem grp_spec (k : Nat) : ∀ (n : Nat) (ys : List AV),n * k <= ys.length -> (grp k n ys).length = n /\ ∀ (i : Nat) (x : AV),(grp k n ys)[i]? = some x -> x.cells = (ys.drop (i * k)).take k /\ i < n
 | 0,ys,_ => ⟨rfl,fun i x hx => by simp [grp] at hx⟩
 | n + 1,ys,h => by
   have h' : n * k <= (ys.drop k).length := by rw [List.length_drop]; rw [Nat.add_mul] at h; omega
   obtain ⟨hl,hm⟩ := grp_spec k n (ys.drop k) h';refine ⟨by simp [grp,hl],fun i x hx => ?_⟩;cases i with
   | zero => simp [grp] at hx; subst hx; rw [el_cells]; simp
   | succ i =>
     simp [grp] at hx;obtain ⟨e1,e2⟩ := hm i x hx;refine ⟨?_,by omega⟩;rw [e1,List.drop_drop];congr 2;rw [Nat.add_mul]; omega
theorem cell_of_heap {w : World} {g : Nat} {arr : Array Value} {e : TypeId} {fr : Nat × Nat} (h : w.heap[g]? = some (.cells arr e fr)) (o : Nat) : w.cell? ⟨g,o,none⟩ = arr[o]? := cell_of_row w g o arr e fr h

theorem frz_rep {X : Nat -> Prop} {φ : Phi} {w : World} {H : Heap} (h : HRel X φ w H) {R : Addr -> Value -> Prop} (hR : ∀ a u,Rd X φ w a u -> R a u) :
  ∀ (n : Nat) (x y : AV) (v : Value) (bs : List Nat),frz H n x = some (y,bs) ->
   (∀ b ∈ bs,∀ g sz : Nat,φ[b]? = some (some (g,sz)) -> ∀ o u,w.cell? ⟨g,o,none⟩ = some u -> R ⟨g,o,none⟩ u) -> Rep (Rd X φ w) φ x v -> Rep R [] y v
 | 0,_,_,_,_,hf,_,_ => by simp [frz] at hf
 | n + 1,x,y,v,bs,hf,hb,r => by
   have ih := frz_rep h hR n
   have many : ∀ {cs ys : List AV} {bs' : List Nat} {vs : Array Value},mapF (frz H n) cs = some (ys,bs') -> (∀ b ∈ bs',b ∈ bs) -> cs.length = vs.size ->
     (∀ (i : Nat) (c : AV) (v : Value),cs[i]? = some c -> vs[i]? = some v -> Rep (Rd X φ w) φ c v) ->
     ys.length = vs.size /\ ∀ (i : Nat) (c : AV) (v : Value),ys[i]? = some c -> vs[i]? = some v -> Rep R [] c v := by
    intro cs ys bs' vs hm hsub hl hr;obtain ⟨hl',hm'⟩ := mapF_spec hm;refine ⟨by omega,fun i c v hc hv => ?_⟩;obtain ⟨x,hx⟩ := getElem?_some_of (l := cs) (i := i) (by have := lt_of_getElem? hc; omega);obtain ⟨y,b,e1,e2,e3⟩ := hm' i x hx;rw [e2] at hc;simp at hc;subst hc;exact ih x _ v b e1 (fun b' hb' => hb b' (hsub _ (e3 b' hb'))) (hr i x v hx hv)
   cases x with
   | ptr b off =>
     simp only [frz] at hf;split at hf
     ·rename_i cs hcs;split at hf
      ·rename_i ys bs' hm;simp at hf;obtain ⟨rfl,rfl⟩ := hf;obtain ⟨g,sz,arr,e,h1,h2,h3,h4,h5,h6⟩ := h.at hcs;obtain ⟨hl',hm'⟩ := mapF_spec hm;cases r with
       | ptr _ _ _ a hbl ha =>
         obtain rfl := ha g sz h1;refine .fptr _ _ _ (fun j => arr[off + j]?.getD undef) (fun j c hc => ?_) (fun j c hc => ?_)
         ·obtain ⟨x,hx⟩ := getElem?_some_of (l := cs.drop off) (i := j) (by have := lt_of_getElem? hc; omega);rw [List.getElem?_drop] at hx;obtain ⟨u,hu,_⟩ := h6 _ _ hx;rw [Addr.add_none];refine hb b (by simp) g sz h1 _ _ ?_;rw [cell_of_heap h2,hu]; simp
         ·obtain ⟨x,hx⟩ := getElem?_some_of (l := cs.drop off) (i := j) (by have := lt_of_getElem? hc; omega);obtain ⟨y,b',e1,e2,e3⟩ := hm' j x hx;rw [e2] at hc;simp at hc;subst hc;rw [List.getElem?_drop] at hx;obtain ⟨u,hu,r⟩ := h6 _ _ hx;refine ih x _ _ b' e1 (fun c hc => hb c (by simp [e3 c hc])) ?_;rw [hu]; exact r
      ·cases hf
     ·cases hf
   | sl k b off len =>
     simp only [frz] at hf;split at hf
     ·rename_i cs hcs;split at hf
      ·rename_i hfit;split at hf
       ·rename_i ys bs' hm;simp at hf;obtain ⟨rfl,rfl⟩ := hf;obtain ⟨g,sz,arr,e,h1,h2,h3,h4,h5,h6⟩ := h.at hcs;obtain ⟨hl',hm'⟩ := mapF_spec hm;have hl2 : ys.length = len * k := by rw [hl',List.length_take,List.length_drop]; omega
        obtain ⟨gl,gm⟩ := grp_spec k len ys (by omega);cases r with
        | sl _ _ _ _ _ a cap hbl hc ha =>
          obtain ⟨haddr,hcap⟩ := ha g sz h1;by_cases hc0 : 0 < cap
          case neg =>
           have hlen0 : len = 0 := by omega
           subst hlen0;refine .lst _ _ _ _ _ _ (fun _ _ => undef) gl.symm hc (fun x hx => ?_) (fun i j x c hx hc => ?_) (fun i j x c hx hc => ?_)
           all_goals simp [grp] at hx
          obtain rfl := haddr hc0
          have key : ∀ (i j : Nat) (x c : AV),(grp k len ys)[i]? = some x -> x.cells[j]? = some c -> i * k + j < len * k /\ j < k /\ ys[i * k + j]? = some c := by
           intro i j x c hx hc;obtain ⟨e1,e2⟩ := gm i x hx;rw [e1,List.getElem?_take] at hc;split at hc
           ·rename_i hj;rw [List.getElem?_drop] at hc;have := lt_of_getElem? hc;exact ⟨by omega,hj,hc⟩
           ·cases hc
          refine .lst _ _ _ _ _ _ (fun i j => arr[off + (i * k + j)]?.getD undef) gl.symm hc (fun x hx => ?_) (fun i j x c hx hc => ?_) (fun i j x c hx hc => ?_)
          ·obtain ⟨i,hi⟩ := List.getElem?_of_mem hx;obtain ⟨e1,e2⟩ := gm i x hi;rw [e1,List.length_take,List.length_drop,hl2];have : i * k + k <= len * k := by rw [<- Nat.succ_mul]; exact Nat.mul_le_mul_right _ e2
           omega
          ·obtain ⟨k1,k2,k3⟩ := key i j x c hx hc;obtain ⟨z,hz⟩ := getElem?_some_of (l := (cs.drop off).take (len * k)) (i := i * k + j) (by have := lt_of_getElem? k3; omega);rw [List.getElem?_take_of_lt k1,List.getElem?_drop] at hz;obtain ⟨u,hu,_⟩ := h6 _ _ hz;rw [Addr.add_none];refine hb b (by simp) g sz h1 _ _ ?_;rw [cell_of_heap h2,hu]; simp
          ·obtain ⟨k1,k2,k3⟩ := key i j x c hx hc;obtain ⟨z,hz⟩ := getElem?_some_of (l := (cs.drop off).take (len * k)) (i := i * k + j) (by have := lt_of_getElem? k3; omega);obtain ⟨y,b',e1,e2,e3⟩ := hm' _ z hz;rw [e2] at k3;simp at k3;subst k3;rw [List.getElem?_take_of_lt k1,List.getElem?_drop] at hz;obtain ⟨u,hu,r⟩ := h6 _ _ hz;refine ih z _ _ b' e1 (fun c hc => hb c (by simp [e3 c hc])) ?_;rw [hu]; exact r
       ·cases hf
      ·cases hf
     ·cases hf
   | agg cs =>
     simp only [frz] at hf;split at hf
     ·rename_i ys bs' hm;simp at hf;obtain ⟨rfl,rfl⟩ := hf;cases r with
      | agg _ _ vs hl hr =>
        obtain ⟨l1,r1⟩ := many hm (fun _ h => h) hl hr;exact .agg _ _ _ l1 r1
     ·cases hf
   | tup cs =>
     simp only [frz] at hf;split at hf
     ·rename_i ys bs' hm;simp at hf;obtain ⟨rfl,rfl⟩ := hf;cases r with
      | tup _ _ vs hl hr =>
        obtain ⟨l1,r1⟩ := many hm (fun _ h => h) hl hr;exact .tup _ _ _ l1 r1
     ·cases hf
   | func f as cs =>
     simp only [frz] at hf;split at hf
     ·rename_i ys bs1 zs bs2 hm1 hm2;simp at hf;obtain ⟨rfl,rfl⟩ := hf;cases r with
      | func _ _ _ va _ vb hla hlb ha hb' =>
        obtain ⟨l1,r1⟩ := many hm1 (fun _ h => by simp [h]) hla ha;obtain ⟨l2,r2⟩ := many hm2 (fun _ h => by simp [h]) hlb hb';exact .func _ _ _ _ _ _ l1 l2 r1 r2
     ·cases hf
   | _ =>
     simp only [frz,Option.some.injEq,Prod.mk.injEq] at hf;obtain ⟨rfl,rfl⟩ := hf;exact (r.of_plain rfl []).mono hR (.refl _)
end Go.Am

/- The check that ties compact operations to the operations of the dump. -/
namespace Go.Am

def chkV0 : Value -> AV -> Bool
 | .bool a,.bool b => a == b
 | .int k n,.int k' m => decide (k = k') && decide (n = m)
 | .slice none 0 0,.nils => true
 | .pointer none,.nilp => true
 | .nilFunc,.nilf => true
 | .tuple vs,.undef => vs.isEmpty
 | _,_ => false
def chkVs : List Value -> List AV -> Bool
 | [],[] => true
 | v :: r,x :: s => chkV0 v x && chkVs r s
 | _,_ => false
def chkV : Value -> AV -> Bool
 | .agg cs,.agg ds => chkVs cs.toList ds
 | v,x => chkV0 v x
def chkE : Operand -> E -> Bool
 | .tmp t,.t i => decide (t = i)
 | .const v,.k x => chkV v x
 | .func f,.k (.func (.func g) [] []) => decide (f = g)
 | .global g,.g i => decide (g = i)
 | _,_ => false
def chkEs : List Operand -> List E -> Bool
 | [],[] => true
 | x :: r,y :: s => chkE x y && chkEs r s
 | _,_ => false
def chkEo : Option Operand -> Option E -> Bool
 | none,none => true
 | some x,some y => chkE x y
 | _,_ => false
def chkPs (place : Nat -> Option (Nat × Nat)) : List (Nat × Operand) -> List (Nat × Nat × E) -> Bool
 | [],[] => true
 | (i,x) :: r,(off,sz,y) :: s => decide (place i = some (off,sz)) && chkE x y && chkPs place r s
 | _,_ => false

def aggOf (P : Program) (t : TypeId) : Option (Option Nat) :=
 match P.underlying t with
 | some (.struct _) | some (.array _ _) => match P.info? t with
   | some i => some (some i.size)
   | none => none
 | some _ => some none
 | none => none
def sizeIs (P : Program) (t : TypeId) (k : Nat) : Bool :=
 match P.info? t with
 | some i => decide (i.size = k)
 | none => false
def zeroIs (P : Program) (t : TypeId) (zs : List AV) : Bool :=
 match P.info? t with
 | some i => match i.zero with
   | some z => chkVs z.cells.toList zs && allLeaf zs
   | none => false
 | none => false
def elemIs (P : Program) (t : TypeId) (k : Nat) : Bool :=
 match P.underlying t with
 | some (.slice e) => match P.info? e with
   | some i => decide (i.size = k) && decide (0 < k) && decide (i.bytes <= 1024) && (match i.zero with
     | some z => decide (z.cells.size = k)
     | none => false)
   | none => false
 | _ => false
def elemZero (P : Program) (t : TypeId) (zs : List AV) : Bool :=
 match P.underlying t with
 | some (.slice e) => zeroIs P e zs
 | _ => false
def structPlace (P : Program) (fs : Array Field) (i : Nat) : Option (Nat × Nat) :=
 match fs[i]? with
 | some f => match P.info? f.type with
   | some j => some (f.offset,j.size)
   | none => none
 | none => none
def eqFlds (P : Program) : Nat -> List Field -> List Bool -> Bool
 | _,[],[] => true
 | o, f :: r, b :: s => decide (f.offset = o) && decide (f.name ≠ "_") && (match P.underlying f.type with
   | some (.int _) => b
   | some .bool => !b
   | _ => false) && eqFlds P (o + 1) r s
 | _,_,_ => false
def chkEt (P : Program) (t : TypeId) : Et -> Bool
 | .bool => match P.underlying t with
   | some .bool => true
   | _ => false
 | .nsl => match P.underlying t with
   | some (.slice _) => true
   | _ => false
 | .nptr => match P.underlying t with
   | some (.pointer _) => true
   | _ => false
 | .nfn => match P.underlying t with
   | some (.func _ _ _) => true
   | _ => false
 | .str l => match P.underlying t with
   | some (.struct fs) => !P.stoodInHeld t && !P.eqGuardType P.depth t && eqFlds P 0 fs.toList l
   | _ => false
def isSlice (P : Program) (t : TypeId) : Bool :=
 match P.underlying t with
 | some (.slice _) => true
 | _ => false

def eqOp : BinOp -> Bool -> Bool
 | .eql,ng => !ng
 | .neq,ng => ng
 | _,_ => false
def chkK (P : Program) : Op -> Kd -> Bool
 | .move x,.mv y => chkE x y
 | .assign x,.mv y => chkE x y
 | .pick c a b,.pick c' a' b' => chkE c c' && chkE a a' && chkE b b'
 | .alloc t,.new zs => zeroIs P t zs
 | .box _ x,.box y => chkE x y
 | .build t ps,.build zs qs => zeroIs P t zs && (match P.underlying t with
   | some (.struct fs) => (fs.toList.all fun f => (P.info? f.type).isSome) && chkPs (structPlace P fs) ps.toList qs
   | some (.array _ e) => match P.info? e with
     | some i => chkPs (fun j => some (j * i.size,i.size)) ps.toList qs
     | none => false
   | _ => false)
 | .buildSlice t n ps,.bslice k m zs qs => decide (n = m) && elemIs P t k && elemZero P t zs && decide (n * k <= 16777216) && chkPs (fun j => some (j * k,k)) ps.toList qs
 | .load t a,.ld ag y => decide (aggOf P t = some ag) && chkE a y
 | .store t a v,.st k b y => sizeIs P t k && chkE a b && chkE v y
 | .nilCheck x,.nilck y => chkE x y
 | .binOp op _ x y _,.bin op' x' y' => decide (op = op') && chkE x x' && chkE y y'
 | .binOp op t x y _,.eq ng et x' y' => eqOp op ng && chkEt P t et && chkE x x' && chkE y y'
 | .unOp op _ x,.un op' y => decide (op = op') && chkE x y
 | .convert s d x,.cvt k y => (P.underlying s).isSome && (match P.underlying d with
   | some (.int k') => decide (k = k')
   | _ => false) && chkE x y
 | .makeFunc fn as bs,.mkf fn' cs ds => decide (fn = fn') && chkEs as.toList cs && chkEs bs.toList ds
 | .makeSlice t l c,.mks k zs l' c' => elemIs P t k && elemZero P t zs && chkE l l' && chkE c c'
 | .slice t x lo hi none,.slc k y lo' hi' => elemIs P t k && chkE x y && chkEo lo lo' && chkEo hi hi'
 | .fieldAddr s x f,.fad off y => (match P.underlying s with
   | some (.struct fs) => match fs[f]? with
     | some fd => decide (fd.offset = off) && (match P.info? fd.type with
       | some i => decide (i.size ≠ 0)
       | none => false)
     | none => false
   | _ => false) && chkE x y
 | .field s x f,.fld off ag y => (match P.underlying s with
   | some (.struct fs) => match fs[f]? with
     | some fd => decide (fd.offset = off) && decide (aggOf P fd.type = some ag)
     | none => false
   | _ => false) && chkE x y
 | .indexAddr t x i,.ixa k y j => elemIs P t k && chkE x y && chkE i j
 | .indexAddr t x i,.ixp n k y j => (match P.underlying t with
   | some (.array n' e) => decide (n = n') && sizeIs P e k
   | _ => false) && chkE x y && chkE i j
 | .index t x i,.ix n k ag y j => (match P.underlying t with
   | some (.array n' e) => decide (n = n') && sizeIs P e k && decide (aggOf P e = some ag)
   | _ => false) && chkE x y && chkE i j
 | .index t (.const (.string s)) i,.ixs tab j => (match P.underlying t with
   | some .string => true
   | _ => false) && decide (s.data.toList.map (·.toNat) = tab) && chkE i j
 | .call { callee := .builtin .clear,args,argTypes },.clr k zs x => (match args.toList,argTypes.toList with
   | [x'],[t] => elemIs P t k && elemZero P t zs && chkE x' x
   | _,_ => false)
 | .extract x i,.ext j y => decide (i = j) && chkE x y
 | .call { callee := .value (.func f),args,argTypes := _ },.call g xs => decide (f = g) && chkEs args.toList xs
 | .call { callee := .value x,args,argTypes := _ },.callv y xs => chkE x y && chkEs args.toList xs
 | .call { callee := .builtin .len,args,argTypes },.len y => (match args.toList,argTypes.toList with
   | [x],[t] => isSlice P t && chkE x y
   | _,_ => false)
 | .call { callee := .builtin .append,args,argTypes },.app k x y => (match args.toList,argTypes.toList with
   | [x',y'],[t,t'] => decide (t = t') && elemIs P t k && chkE x' x && chkE y' y
   | _,_ => false)
 | .call { callee := .builtin .min,args,argTypes := _ },.min xs => chkEs args.toList xs
 | .call { callee := .builtin .max,args,argTypes := _ },.max xs => chkEs args.toList xs
 | .slice t x none hi none,.asl n y hi' => (match P.underlying t with
   | some (.array n' e) => decide (n = n') && sizeIs P e 1
   | _ => false) && (chkE x y && chkEo hi hi')
 | .call { callee := .builtin .copy,args,argTypes },.copy k x y => (match args.toList,argTypes.toList with
   | [x',y'],[t,_] => elemIs P t k && chkE x' x && chkE y' y
   | _,_ => false)
 | _,.bad => true
 | _,_ => false

def chkO (P : Program) (N : Nat) (ops : Array Oper) (o : Oper) (q : O) : Bool :=
 decide (o.dst = q.dst) && (match q.dst with
  | some d => decide (d < N)
  | none => true) && (match o.guard,q.guard with
  | none,none => true
  | some (j,want),some (g,want') => decide ((ops[j]?).bind (·.dst) = some g) && decide (want = want')
  | _,_ => false) && chkK P o.op q.kd
def chkOs (P : Program) (N : Nat) (ops : Array Oper) : List Oper -> List O -> Bool
 | [],[] => true
 | o :: r,q :: s => chkO P N ops o q && chkOs P N ops r s
 | _,_ => false
def apartO (x y : O) : Bool :=
 (match x.dst with
  | some d => !mem d y.reads && decide (y.dst ≠ some d)
  | none => true) &&
 (match y.dst with
  | some d => !mem d x.reads
  | none => true)
def pairIn (i j : Nat) : List (Nat × Nat) -> Bool
 | [] => false
 | p :: r => (decide (p.1 = i) && decide (p.2 = j)) || pairIn i j r
def direct (y : Oper) : List Nat := (y.after.toList.filter fun e => Region.binds .any e).map (·.on)
def dedup : List Nat -> List Nat
 | [] => []
 | x :: r => if mem x (dedup r) then dedup r else x :: dedup r
def ancOf (anc : List (List Nat)) (y : Oper) : List Nat := dedup (direct y ++ (dedup (direct y)).flatMap fun i => anc.getD i [])
def chkPair (un : List (Nat × Nat)) (i j : Nat) (x : O) (ys : List Nat) (q : O) : Bool := mem i ys || (apartO x q && (x.kd.pure || q.kd.pure || pairIn i j un))
def chkBefore (un : List (Nat × Nat)) (j : Nat) (ys : List Nat) (q : O) : Nat -> List O -> Bool
 | _,[] => true
 | i,x :: r => chkPair un i j x ys q && chkBefore un j ys q (i + 1) r
def chkOrder (un : List (Nat × Nat)) (anc : List (List Nat)) (seen : List O) : List Oper -> List O -> Bool
 | y :: r,q :: s => ((direct y).all fun i => decide (i < seen.length)) && chkBefore un seen.length (ancOf anc y) q 0 seen && chkOrder un (anc ++ [ancOf anc y]) (seen ++ [q]) r s
 | _,_ => true
def chk (P : Program) (N : Nat) : Code -> C -> Bool
 | .skip,.skip => true
 | .ret,.ret => true
 | .exit i,.exit j => decide (i = j)
 | .region _ ops d,.reg os dr un _ => decide (d = dr) && chkOs P N ops ops.toList os && (!dr || chkOrder un [] [] ops.toList os)
 | .seq a b,.seq x y => chk P N a x && chk P N b y
 | .cond c a b,.cond c' x y => chkE c c' && chk P N a x && chk P N b y
 | .block i b,.blk j x => decide (i = j) && chk P N b x
 | .loop b,.loop x => chk P N b x
 | .label _,.skip => true
 | .scope b,.seq .skip x => chk P N b x
 | _,_ => false
def chkR (P : Program) : ResultVar -> Rv -> Bool
 | .tmp t,.t i => decide (t = i)
 | .cell a t,.c i ag => decide (a = i) && decide (aggOf P t = some ag)
 | _,_ => false
def chkRs (P : Program) : List ResultVar -> List Rv -> Bool
 | [],[] => true
 | x :: r,y :: s => chkR P x y && chkRs P r s
 | _,_ => false
def chkF (P : Program) (fn : Func) (q : AFn) : Bool :=
 decide (fn.ntmps = q.n) && !(fn.name == "runtime.NumGoroutine") && chkRs P fn.results.toList q.res && (match fn.body with
  | some c => chk P q.n c q.body
  | none => false)
structure CfgOK (P : Program) (c : Cfg) : Prop where
 mixed : P.follows .mixedOrders = true
 fn : ∀ f m q,c.fn f = some (m,q) -> ∃ fn,P.funcs[f]? = some fn /\ chkF P fn q = true
end Go.Am

/- What one operation of the dump does is what the compact operation says: the operations that call nothing. -/
namespace Go.Am

def GlOK (c : Cfg) (X : Nat -> Prop) (φ : Phi) (w : World) : Prop := ∀ g,Rep (Rd X φ w) [] (.fptr (c.gl g)) (.pointer (some ⟨g,0,none⟩))
theorem GlOK.adv {c : Cfg} {X : Nat -> Prop} {φ φ' : Phi} {w w' : World} (h : GlOK c X φ w) (a : Adv φ w φ' w') : GlOK c X φ' w' := fun g => (h g).mono a.rd (.refl _)

def Ok (P : Program) (X : Nat -> Prop) (φ : Phi) (w : World) (o : Oper) (a : Act) (v : AV) (H' : Heap) : Prop :=
 ∀ (K : Act -> World -> Prop) (Q : Exit -> Act -> World -> Prop),(∀ v' w' φ',Rep (Rd X φ' w') φ' v v' -> HRel X φ' w' H' -> Adv φ w φ' w' -> K (a.put o.dst v') w') -> o.wp P a w K Q

section
variable {P : Program} {c : Cfg} {X : Nat -> Prop} {φ : Phi} {w : World} {env : Env} {H : Heap} {a : Act} {o : Oper}

theorem Ok.value {v : AV} {v' : Value} {w' : World} {H' : Heap} {φ' : Phi} (hr : (execOp a.eval o).run P w = .ok (.value v') w') (r : Rep (Rd X φ' w') φ' v v') (h : HRel X φ' w' H') (k : Adv φ w φ' w') : Ok P X φ w o a v H' := by
 intro K Q hK;unfold Oper.wp;rw [hr];exact hK v' w' φ' r h k
theorem Ok.quiet {v : AV} {v' : Value} (hr : (execOp a.eval o).run P w = .ok (.value v') w) (r : Rep (Rd X φ w) φ v v') (h : HRel X φ w H) : Ok P X φ w o a v H := Ok.value hr r h (.refl _ _)
theorem Ok.skip {w' : World} {H' : Heap} {φ' : Phi} (hr : (execOp a.eval o).run P w = .ok .skip w') (h : HRel X φ' w' H') (k : Adv φ w φ' w') : Ok P X φ w o a .undef H' := by
 intro K Q hK;unfold Oper.wp;rw [hr];exact hK undef w' φ' (.undef _) h k

theorem chkV0_rep {R : Addr -> Value -> Prop} {ψ : Phi} {v : Value} {x : AV} (h : chkV0 v x = true) : Rep R ψ x v := by
 unfold chkV0 at h;split at h
 ·simp at h; subst h; exact .bool _ _
 ·simp at h; obtain ⟨rfl,rfl⟩ := h; exact .int _ _ _
 ·exact .nils _
 ·exact .nilp _
 ·exact .nilf _
 ·rename_i vs;have : vs = #[] := by simpa using h
  subst this;exact .undef _
 ·cases h
theorem chkVs_rep {R : Addr -> Value -> Prop} {ψ : Phi} : ∀ {vs : List Value} {xs : List AV},chkVs vs xs = true -> xs.length = vs.length /\ ∀ (i : Nat) (x : AV) (v : Value),xs[i]? = some x -> vs[i]? = some v -> Rep R ψ x v
 | [],[],_ => ⟨rfl,fun i x v hx => by simp at hx⟩
 | [],_ :: _,h => by simp [chkVs] at h
 | _ :: _,[],h => by simp [chkVs] at h
 | v :: r,x :: s,h => by
   simp only [chkVs,Bool.and_eq_true] at h;obtain ⟨hl,hm⟩ := chkVs_rep (R := R) (ψ := ψ) h.2;refine ⟨by simp [hl],fun i y u hy hu => ?_⟩;cases i with
   | zero => simp at hy hu; subst hy; subst hu; exact chkV0_rep h.1
   | succ i => simp at hy hu; exact hm i y u hy hu
theorem chkV_rep {R : Addr -> Value -> Prop} {ψ : Phi} {v : Value} {x : AV} (h : chkV v x = true) : Rep R ψ x v := by
 unfold chkV at h;split at h
 ·rename_i cs ds;obtain ⟨hl,hm⟩ := chkVs_rep (R := R) (ψ := ψ) h;exact .agg _ _ _ (by simpa using hl) fun i x v hx hv => hm i x v hx (by simpa using hv)
 ·exact chkV0_rep h
theorem eval_rep (he : ERel X φ w env a.tmps) (hg : GlOK c X φ w) {x : Operand} {y : E} (h : chkE x y = true) : Rep (Rd X φ w) φ (ev c env y) (a.eval x) := by
 unfold chkE at h;split at h
 ·simp at h; subst h; exact he _
 ·exact chkV_rep h
 ·simp at h; subst h;exact .func _ _ _ _ _ _ rfl rfl (fun i c v hc => by simp at hc) (fun i c v hc => by simp at hc)
 ·simp at h; subst h; exact (hg _).of_plain rfl _
 ·cases h

def ARel (X : Nat -> Prop) (φ : Phi) (w : World) (xs : List AV) (vs : Array Value) : Prop := xs.length = vs.size /\ ∀ (i : Nat) (x : AV) (v : Value),xs[i]? = some x -> vs[i]? = some v -> Rep (Rd X φ w) φ x v
theorem evals_rep (he : ERel X φ w env a.tmps) (hg : GlOK c X φ w) : ∀ {xs : List Operand} {ys : List E},chkEs xs ys = true ->
  (evs c env ys).length = xs.length /\ ∀ (i : Nat) (x : AV) (v : Value),(evs c env ys)[i]? = some x -> (xs.map a.eval)[i]? = some v -> Rep (Rd X φ w) φ x v
 | [],[],_ => ⟨rfl,fun i x v hx => by simp [evs] at hx⟩
 | [],_ :: _,h => by simp [chkEs] at h
 | _ :: _,[],h => by simp [chkEs] at h
 | x :: r,y :: s,h => by
   simp only [chkEs,Bool.and_eq_true] at h;obtain ⟨hl,hm⟩ := evals_rep he hg h.2;refine ⟨by simp [evs,hl],fun i z v hz hv => ?_⟩;cases i with
   | zero => simp [evs] at hz hv; subst hz; subst hv; exact eval_rep he hg h.1
   | succ i => simp [evs] at hz; simp at hv; exact hm i z v hz (by simpa using hv)

/-! Places -/
def Plc (X : Nat -> Prop) (φ : Phi) (w : World) (cs : List AV) (ad : Addr) : Prop := ∀ (j : Nat) (x : AV),cs[j]? = some x -> ∃ u,w.cell? (ad.add j) = some u /\ Rep (Rd X φ w) φ x u
theorem Rep.mono0 {R : Addr -> Value -> Prop} {x : AV} {v : Value} (h : Rep R [] x v) (φ : Phi) : Rep R φ x v := h.mono (fun _ _ h => h) ⟨Nat.zero_le _,fun b p hb => by simp at hb⟩
theorem Plc.of_fptr {cs : List AV} {v : Value} (h : Rep (Rd X φ w) φ (.fptr cs) v) : ∃ ad,v = .pointer (some ad) /\ Plc X φ w cs ad := by
 cases h with
 | fptr _ _ ad u hu h => exact ⟨ad,rfl,fun j x hx => ⟨u j,(hu j x hx).2.2,(h j x hx).mono0 φ⟩⟩
theorem Plc.of_ptr (hh : HRel X φ w H) {b off : Nat} {cs : List AV} (hb : blk H b = some cs) {v : Value} (h : Rep (Rd X φ w) φ (.ptr b off) v) :
  ∃ g sz arr e,v = .pointer (some ⟨g,off,none⟩) /\ φ[b]? = some (some (g,sz)) /\ w.heap[g]? = some (.cells arr e (0,0)) /\ arr.size = sz /\ cs.length <= sz /\ ¬ X g /\
   (∀ (i : Nat) (c : AV),cs[i]? = some c -> ∃ u,arr[i]? = some u /\ Rep (Rd X φ w) φ c u) /\ Plc X φ w (cs.drop off) ⟨g,off,none⟩ := by
 obtain ⟨g,sz,arr,e,h1,h2,h3,h4,h5,h6⟩ := hh.at hb;cases h with
 | ptr _ _ _ ad hbl hp =>
   obtain rfl := hp g sz h1;refine ⟨g,sz,arr,e,rfl,h1,h2,h3,h4,h5,h6,fun j x hx => ?_⟩;rw [List.getElem?_drop] at hx;obtain ⟨u,hu,r⟩ := h6 _ _ hx;exact ⟨u,by rw [Addr.add_none,cell_of_heap h2]; exact hu,r⟩
theorem Plc.values {cs : List AV} {ad : Addr} (h : Plc X φ w cs ad) : ∀ n,n <= cs.length -> ∃ vs : List Value,vs.length = n /\ (∀ (j : Nat) (v : Value),vs[j]? = some v -> w.cell? (ad.add j) = some v) /\
  ∀ (j : Nat) (x : AV) (v : Value),(cs.take n)[j]? = some x -> vs[j]? = some v -> Rep (Rd X φ w) φ x v
 | 0,_ => ⟨[],rfl,fun j v hv => by simp at hv,fun j x v hx => by simp at hx⟩
 | n + 1,hn => by
   obtain ⟨vs,hl,h1,h2⟩ := Plc.values h n (by omega);obtain ⟨x,hx⟩ := getElem?_some_of (l := cs) (i := n) (by omega);obtain ⟨u,hu,r⟩ := h n x hx;refine ⟨vs ++ [u],by simp [hl],fun j v hv => ?_,fun j y v hy hv => ?_⟩
   ·by_cases hj : j < vs.length
    ·rw [List.getElem?_append_left hj] at hv; exact h1 j v hv
    ·have hlt := lt_of_getElem? hv;simp at hlt;have hje : j = n := by omega
     subst hje;rw [List.getElem?_append_right (by omega)] at hv;simp [hl] at hv;subst hv;exact hu
   ·by_cases hj : j < vs.length
    ·rw [List.getElem?_append_left hj] at hv;rw [List.getElem?_take_of_lt (by omega)] at hy;exact h2 j y v (by rw [List.getElem?_take_of_lt (by omega)]; exact hy) hv
    ·have hlt := lt_of_getElem? hv;simp at hlt;have hje : j = n := by omega
     subst hje;rw [List.getElem?_append_right (by omega)] at hv;simp [hl] at hv;subst hv;rw [List.getElem?_take_of_lt (by omega),hx] at hy;simp at hy;subst hy;exact r

theorem run_info {t : TypeId} {i : TypeInfo} (h : P.info? t = some i) : (typeInfo t).run P w = .ok i w := by simp [typeInfo,h]
theorem run_size {t : TypeId} {i : TypeInfo} (h : P.info? t = some i) : (sizeOf t).run P w = .ok i.size w := by simp [sizeOf,run_info h]
theorem run_zero {t : TypeId} {i : TypeInfo} {z : Value} (h : P.info? t = some i) (hz : i.zero = some z) : (zeroValue t).run P w = .ok z w := by simp [zeroValue,run_info h,hz]

theorem aggOf_some {t : TypeId} {k : Nat} (h : aggOf P t = some (some k)) : ∃ i,P.info? t = some i /\ i.size = k /\ (isAgg t).run P w = .ok true w := by
 unfold aggOf at h;split at h
 ·rename_i fs hu;split at h
  ·rename_i i hi;exact ⟨i,hi,by simpa using h,by simp [isAgg,run_underlying hu]⟩
  ·cases h
 ·rename_i n e hu;split at h
  ·rename_i i hi;exact ⟨i,hi,by simpa using h,by simp [isAgg,run_underlying hu]⟩
  ·cases h
 ·simp at h
 ·cases h
theorem aggOf_none {t : TypeId} (h : aggOf P t = some none) : (isAgg t).run P w = .ok false w := by
 unfold aggOf at h;split at h
 ·split at h <;> simp at h
 ·split at h <;> simp at h
 ·rename_i d h1 h2 hu;simp only [isAgg,Sem.run_bind,run_underlying hu,Result.andThen_ok];rfl
 ·cases h
theorem load_ok {t : TypeId} {ag : Option Nat} (ha : aggOf P t = some ag) {cs : List AV} {x : AV} (hx : rdc ag cs = some x) {ad : Addr} (hp : Plc X φ w cs ad) :
  ∃ v,(loadVar t ad).run P w = .ok v w /\ Rep (Rd X φ w) φ x v := by
 cases ag with
 | some k =>
   obtain ⟨i,hi,hk,hag⟩ := aggOf_some (w := w) ha;simp only [rdc] at hx;split at hx
   ·rename_i hle;simp at hx;subst hx;obtain ⟨vs,hl,h1,h2⟩ := hp.values k hle;have hlc := run_loadCells_list (P := P) w ad vs h1;refine ⟨.agg vs.toArray,?_,.agg _ _ _ (by simp [hl]; omega) fun i c v hc hv => h2 i c v hc (by simpa using hv)⟩;simp only [loadVar,Sem.run_bind,hag,Result.andThen_ok,if_true,run_size hi,hk];rw [<- hl,hlc];simp
   ·cases hx
 | none =>
   have hag := aggOf_none (P := P) (w := w) ha;simp only [rdc] at hx;cases cs with
   | nil => simp at hx
   | cons y r =>
     simp at hx;subst hx;obtain ⟨u,hu,r⟩ := hp 0 y rfl;rw [Addr.add_zero'] at hu;refine ⟨u,?_,r⟩;simp only [loadVar,Sem.run_bind,hag,Result.andThen_ok,Bool.false_eq_true,if_false,run_load,hu]

theorem part_ok {t : TypeId} {ag : Option Nat} (ha : aggOf P t = some ag) {cs : List AV} {vs : Array Value} (hl : cs.length = vs.size)
  (hr : ∀ (i : Nat) (c : AV) (v : Value),cs[i]? = some c -> vs[i]? = some v -> Rep (Rd X φ w) φ c v) {off : Nat} {x : AV} (hx : rdc ag (cs.drop off) = some x) :
  ∃ v,(part t vs off).run P w = .ok v w /\ Rep (Rd X φ w) φ x v := by
 cases ag with
 | some k =>
   obtain ⟨i,hi,hk,hag⟩ := aggOf_some (w := w) ha;simp only [rdc] at hx;split at hx
   ·rename_i hle;simp at hx;subst hx;rw [List.length_drop] at hle;refine ⟨.agg (vs.extract off (off + k)),?_,.agg _ _ _ ?_ fun j c v hc hv => ?_⟩
    ·simp only [part,Sem.run_bind,hag,Result.andThen_ok,if_true,run_size hi,hk,Sem.run_pure]
    ·simp only [List.length_take,List.length_drop,Array.size_extract]; omega
    ·have hjk : j < k := by have := lt_of_getElem? hc; simp only [List.length_take] at this; omega
     rw [List.getElem?_take_of_lt hjk,List.getElem?_drop] at hc
     have hv' : vs[off + j]? = some v := by
      rw [Array.getElem?_extract] at hv;split at hv
      ·exact hv
      ·cases hv
     exact hr _ c v hc hv'
   ·cases hx
 | none =>
   have hag := aggOf_none (P := P) (w := w) ha;simp only [rdc,List.head?_drop] at hx;have hlt := lt_of_getElem? hx;obtain ⟨v,hv⟩ := agetElem?_some_of (l := vs) (i := off) (by omega);exact ⟨v,by simp only [part,Sem.run_bind,hag,Result.andThen_ok,Bool.false_eq_true,if_false,hv,Sem.run_pure],hr off x v hx hv⟩

theorem rep_int {k : IntKind} {n : Int} {v : Value} (h : Rep (Rd X φ w) φ (.int k n) v) : v = .int k n := by cases h; rfl
theorem rep_bool {b : Bool} {v : Value} (h : Rep (Rd X φ w) φ (.bool b) v) : v = .bool b := by cases h; rfl

theorem run_bin {op : BinOp} {t : TypeId} {k k' : IntKind} {x y : Int} {r : AV} (h : binA op (.int k x) (.int k' y) = some r) :
  ∃ v,(binOp op t (.int k x) (.int k' y)).run P w = .ok v w /\ ∀ R ψ,Rep R ψ r v := by
 cases op <;> simp only [binA,arith] at h
 case shl =>
  split at h
  ·cases h
  ·rename_i hn;simp at h; subst h;exact ⟨_,by simp [binOp,Op.shift,hn],fun _ _ => .int _ _ _⟩
 case shr =>
  split at h
  ·cases h
  ·rename_i hn;simp at h; subst h;exact ⟨_,by simp [binOp,Op.shift,hn],fun _ _ => .int _ _ _⟩
 all_goals
  split at h
  ·rename_i hk;subst hk
   first
    | (simp at h; subst h; first | exact ⟨_,by simp [go_sem],fun _ _ => .int _ _ _⟩ | exact ⟨_,by simp [go_sem],fun _ _ => .bool _ _⟩)
    | (split at h
       ·cases h
       ·rename_i hn;simp at h; subst h;exact ⟨_,by simp [go_sem,hn],fun _ _ => .int _ _ _⟩)
  ·cases h

theorem eqc_int {l : List Bool} {xs ys : List AV} {e : Bool} (h : eqc (true :: l) xs ys = some e) :
  ∃ k a r b s e',xs = .int k a :: r /\ ys = .int k b :: s /\ eqc l r s = some e' /\ e = (a == b && e') := by
 cases xs with
 | nil => simp [eqc] at h
 | cons x r =>
   cases ys with
   | nil => cases x <;> simp [eqc] at h
   | cons y s =>
     cases x <;> cases y <;> simp [eqc] at h
     rename_i k a k' b;obtain ⟨rfl,h⟩ := h;split at h
     ·rename_i e' he;simp at h;exact ⟨k,a,r,b,s,e',rfl,rfl,he,h.symm⟩
     ·cases h
theorem eqc_bool {l : List Bool} {xs ys : List AV} {e : Bool} (h : eqc (false :: l) xs ys = some e) :
  ∃ a r b s e',xs = .bool a :: r /\ ys = .bool b :: s /\ eqc l r s = some e' /\ e = (a == b && e') := by
 cases xs with
 | nil => simp [eqc] at h
 | cons x r =>
   cases ys with
   | nil => cases x <;> simp [eqc] at h
   | cons y s =>
     cases x <;> cases y <;> simp [eqc] at h
     rename_i a b;split at h
     ·rename_i e' he;simp at h;exact ⟨a,r,b,s,e',rfl,rfl,he,h.symm⟩
     ·cases h
theorem run_eqFields (d : Nat) : ∀ (fs : List Field) (l : List Bool) (off : Nat) (xs ys : List AV) (vx vy : Array Value) (e : Bool),eqFlds P off fs l = true -> eqc l (xs.drop off) (ys.drop off) = some e ->
  xs.length = vx.size -> ys.length = vy.size -> (∀ (i : Nat) (c : AV) (v : Value),xs[i]? = some c -> vx[i]? = some v -> Rep (Rd X φ w) φ c v) ->
  (∀ (i : Nat) (c : AV) (v : Value),ys[i]? = some c -> vy[i]? = some v -> Rep (Rd X φ w) φ c v) -> (Op.eqFields (d + 1) vx vy fs).run P w = .ok e w
 | [],[],off,xs,ys,vx,vy,e,_,he,_,_,_,_ => by
   generalize xs.drop off = a at he;generalize ys.drop off = b at he;cases a <;> cases b <;> simp [eqc] at he
   subst he;rfl
 | [],_ :: _,_,_,_,_,_,_,h,_,_,_,_,_ => by simp [eqFlds] at h
 | _ :: _,[],_,_,_,_,_,_,h,_,_,_,_,_ => by simp [eqFlds] at h
 | f :: fs,b :: l,off,xs,ys,vx,vy,e,h,he,hlx,hly,hx,hy => by
   simp only [eqFlds,Bool.and_eq_true,decide_eq_true_eq] at h;obtain ⟨⟨⟨hoff,hname⟩,hty⟩,hrest⟩ := h;have ih := fun e he => run_eqFields d fs l (off + 1) xs ys vx vy e hrest he hlx hly hx hy
   have cell : ∀ (zs : List AV) (vz : Array Value) (z : AV) (r : List AV),zs.length = vz.size -> zs.drop off = z :: r -> (∃ v,vz[off]? = some v) /\ zs[off]? = some z /\ zs.drop (off + 1) = r := by
    intro zs vz z r hl hd
    have h0 : zs[off]? = some z := by
     have h := congrArg (·[0]?) hd;simp only [List.getElem?_drop,List.getElem?_cons_zero,Nat.add_zero] at h;exact h
    refine ⟨agetElem?_some_of (by have := lt_of_getElem? h0; omega),h0,?_⟩;rw [<- List.tail_drop,hd]; rfl
   split at hty
   ·rename_i k hu;subst hty;have hag : aggOf P f.type = some none := by simp [aggOf,hu]
    have hna := aggOf_none (P := P) (w := w) hag;obtain ⟨kx,a,r,b',s,e',hdx,hdy,hee,rfl⟩ := eqc_int he;obtain ⟨⟨vx0,hvx⟩,hx0,hx1⟩ := cell xs vx _ _ hlx hdx;obtain ⟨⟨vy0,hvy⟩,hy0,hy1⟩ := cell ys vy _ _ hly hdy;obtain rfl := rep_int (hx off _ vx0 hx0 hvx);obtain rfl := rep_int (hy off _ vy0 hy0 hvy);have ih' := ih e' (by rw [hx1,hy1]; exact hee);simp only [Op.eqFields,hname,ne_eq,not_false_eq_true,if_true,part,Sem.run_bind,hna,Result.andThen_ok,Bool.false_eq_true,if_false,hoff,hvx,hvy,Sem.run_pure,run_equalIn_int w d f.type kx k a b' hu];cases hab : (a == b') <;> simp [ih']
   ·rename_i hu;simp only [Bool.not_eq_true'] at hty;subst hty;have hag : aggOf P f.type = some none := by simp [aggOf,hu]
    have hna := aggOf_none (P := P) (w := w) hag;obtain ⟨a,r,b',s,e',hdx,hdy,hee,rfl⟩ := eqc_bool he;obtain ⟨⟨vx0,hvx⟩,hx0,hx1⟩ := cell xs vx _ _ hlx hdx;obtain ⟨⟨vy0,hvy⟩,hy0,hy1⟩ := cell ys vy _ _ hly hdy;obtain rfl := rep_bool (hx off _ vx0 hx0 hvx);obtain rfl := rep_bool (hy off _ vy0 hy0 hvy);have ih' := ih e' (by rw [hx1,hy1]; exact hee);simp only [Op.eqFields,hname,ne_eq,not_false_eq_true,if_true,part,Sem.run_bind,hna,Result.andThen_ok,Bool.false_eq_true,if_false,hoff,hvx,hvy,Sem.run_pure,run_equalIn_bool w d f.type a b' hu];cases hab : (a == b') <;> simp [ih']
   ·cases hty
end
end Go.Am

/- What one operation of the dump does, continued: memory. -/
set_option linter.unusedSimpArgs false
namespace Go.Am
section
variable {P : Program} {c : Cfg} {X : Nat -> Prop} {φ : Phi} {w : World} {env : Env} {H : Heap} {a : Act} {o : Oper}

def Cs (X : Nat -> Prop) (φ : Phi) (w : World) (cs : List AV) (vs : List Value) : Prop := cs.length = vs.length /\ ∀ (i : Nat) (c : AV) (v : Value),cs[i]? = some c -> vs[i]? = some v -> Rep (Rd X φ w) φ c v
theorem Cs.get {cs : List AV} {vs : List Value} (h : Cs X φ w cs vs) {i : Nat} {c : AV} (hc : cs[i]? = some c) : ∃ u,vs[i]? = some u /\ Rep (Rd X φ w) φ c u := by
 obtain ⟨u,hu⟩ := getElem?_some_of (l := vs) (i := i) (h.1 ▸ lt_of_getElem? hc);exact ⟨u,hu,h.2 i c u hc hu⟩
theorem Cs.append {cs ds : List AV} {vs us : List Value} (h : Cs X φ w cs vs) (k : Cs X φ w ds us) : Cs X φ w (cs ++ ds) (vs ++ us) := by
 refine ⟨by simp [h.1,k.1],fun i c v hc hv => ?_⟩;by_cases hi : i < cs.length
 ·rw [List.getElem?_append_left hi] at hc;rw [List.getElem?_append_left (h.1 ▸ hi)] at hv;exact h.2 i c v hc hv
 ·rw [List.getElem?_append_right (by omega)] at hc;rw [List.getElem?_append_right (by have := h.1; omega)] at hv;rw [h.1] at hc;exact k.2 _ c v hc hv
theorem Cs.take {cs : List AV} {vs : List Value} (h : Cs X φ w cs vs) (n : Nat) : Cs X φ w (cs.take n) (vs.take n) := by
 refine ⟨by simp [h.1],fun i c v hc hv => ?_⟩;have hi : i < n := by have := lt_of_getElem? hc; simp at this; omega
 rw [List.getElem?_take_of_lt hi] at hc hv;exact h.2 i c v hc hv
theorem Cs.drop {cs : List AV} {vs : List Value} (h : Cs X φ w cs vs) (n : Nat) : Cs X φ w (cs.drop n) (vs.drop n) := by
 refine ⟨by simp [h.1],fun i c v hc hv => ?_⟩;rw [List.getElem?_drop] at hc hv;exact h.2 _ c v hc hv
theorem Cs.ovw {cs ds : List AV} {vs us : List Value} (h : Cs X φ w cs vs) (k : Cs X φ w ds us) (off : Nat) : Cs X φ w (ovw cs off ds) (vs.take off ++ us ++ vs.drop (off + us.length)) := by
 unfold Am.ovw;rw [<- k.1];exact ((h.take off).append k).append (h.drop _)
theorem Rep.cs {x : AV} {v : Value} (h : Rep (Rd X φ w) φ x v) (hs : allLeaf x.cells = true) : Cs X φ w x.cells v.cells.toList /\ ∀ u ∈ v.cells.toList,u.oneCell' = true := by
 obtain ⟨hl,hm⟩ := h.cells hs;refine ⟨⟨by simpa using hl,fun i c u hc hu => ?_⟩,fun u hu => ?_⟩
 ·obtain ⟨u',h1,h2,_⟩ := hm i c hc;simp at hu;rw [h1] at hu;simp at hu;subst hu;exact h2
 ·obtain ⟨i,hi⟩ := List.getElem?_of_mem hu;obtain ⟨c,hc⟩ := getElem?_some_of (l := x.cells) (i := i) (by have := lt_of_getElem? hi; simp at this; omega);obtain ⟨u',h1,_,h3⟩ := hm i c hc;simp at hi;rw [h1] at hi;simp at hi;subst hi;exact h3
theorem Cs.oneCell {cs : List AV} {vs : List Value} (h : Cs X φ w cs vs) (hl : allLeaf cs = true) : ∀ u ∈ vs,u.oneCell' = true := by
 intro u hu;obtain ⟨i,hi⟩ := List.getElem?_of_mem hu;obtain ⟨c,hc⟩ := getElem?_some_of (l := cs) (i := i) (by have := lt_of_getElem? hi; have := h.1; omega);exact (h.2 i c u hc hi).oneCell (allLeaf_mem hl i c hc)
theorem zeroIs_cs {t : TypeId} {zs : List AV} (h : zeroIs P t zs = true) : ∃ i z,P.info? t = some i /\ i.zero = some z /\ Cs X φ w zs z.cells.toList /\ allLeaf zs = true := by
 unfold zeroIs at h;split at h
 ·rename_i i hi;split at h
  ·rename_i z hz;simp only [Bool.and_eq_true] at h;exact ⟨i,z,hi,hz,chkVs_rep h.1,h.2⟩
  ·cases h
 ·cases h
theorem elemIs_spec {t : TypeId} {k : Nat} (h : elemIs P t k = true) : ∃ e i z,P.underlying t = some (.slice e) /\ P.info? e = some i /\ i.size = k /\ 0 < k /\ i.bytes <= 1024 /\ i.zero = some z /\ z.cells.size = k := by
 unfold elemIs at h;split at h
 ·rename_i e hu;split at h
  ·rename_i i hi;simp only [Bool.and_eq_true,decide_eq_true_eq] at h;obtain ⟨⟨⟨h1,h2⟩,h3⟩,h4⟩ := h;split at h4
   ·rename_i z hz;exact ⟨e,i,z,hu,hi,h1,h2,h3,hz,by simpa using h4⟩
   ·cases h4
  ·cases h
 ·cases h

theorem alloc_ok (hh : HRel X φ w H) {arr : Array Value} {e : TypeId} {cs : List AV} {w1 : World} (hw : w1.heap = w.heap) (ho : w1.os = w.os) (ht : w1.tape = w.tape) (hp : w1.output = w.output)
  (hl : cs.length <= arr.size) (hc : ∀ (i : Nat) (c : AV),cs[i]? = some c -> ∃ u,arr[i]? = some u /\ Rep (Rd X φ w) φ c u) (hd : w.drawn <= w1.drawn := by first | exact Nat.le_refl _ | exact Nat.le_succ _) :
  HRel X (φ ++ [some (w.heap.size,arr.size)]) (w1.alloc (.cells arr e)) (H ++ [some cs]) /\ Adv φ w (φ ++ [some (w.heap.size,arr.size)]) (w1.alloc (.cells arr e)) :=
 hh.alloc (w' := w1.alloc (.cells arr e)) (e := e) (by simp [World.alloc,hw]) ho ht hp hl hc hd
theorem Cs.at {cs : List AV} {vs : List Value} {arr : Array Value} (h : Cs X φ w cs vs) (hv : ∀ (i : Nat) (u : Value),vs[i]? = some u -> arr[i]? = some u) : ∀ (i : Nat) (c : AV),cs[i]? = some c -> ∃ u,arr[i]? = some u /\ Rep (Rd X φ w) φ c u := by
 intro i c hc;obtain ⟨u,hu,r⟩ := h.get hc;exact ⟨u,hv i u hu,r⟩
theorem new_ptr {R : Addr -> Value -> Prop} {n g sz : Nat} (hn : φ.length = n) : Rep R (φ ++ [some (g,sz)]) (.ptr n 0) (.pointer (some ⟨g,0,none⟩)) := by
 refine .ptr _ _ _ _ (by simp [hn]) fun g' sz' h => ?_;subst hn;simp at h;rw [h.1]
theorem new_sl {R : Addr -> Value -> Prop} {n g sz k len cap : Nat} (hn : φ.length = n) (hc : len <= cap) (hs : cap * k <= sz) : Rep R (φ ++ [some (g,sz)]) (.sl k n 0 len) (.slice (some ⟨g,0,none⟩) len cap) := by
 refine .sl _ _ _ _ _ _ _ (by simp [hn]) hc fun g' sz' h => ?_;subst hn;simp at h;obtain ⟨rfl,rfl⟩ := h;exact ⟨fun _ => rfl,by omega⟩
theorem new_sl' {R : Addr -> Value -> Prop} {ψ : Phi} {n g sz k len cap : Nat} (hn : ψ.length = n) (hc : len <= cap) (hs : cap * k <= sz) : Rep R (ψ ++ [some (g,sz)]) (.sl k n 0 len) (.slice (some ⟨g,0,none⟩) len cap) := new_sl hn hc hs

theorem ok_new {t : TypeId} {zs : List AV} (hop : o.op = .alloc t) (hh : HRel X φ w H) (hz : zeroIs P t zs = true) : Ok P X φ w o a (.ptr H.length 0) (H ++ [some zs]) := by
 obtain ⟨i,z,hi,hz,hcs,_⟩ := zeroIs_cs (X := X) (φ := φ) (w := w) hz;obtain ⟨h1,h2⟩ := alloc_ok hh (w1 := w) (arr := z.cells) (e := t) rfl rfl rfl rfl (by rw [hcs.1]; simp) (hcs.at (by simp));refine Ok.value ?_ (new_ptr hh.len) h1 h2;simp [execOp,hop,Instr.alloc,run_zero hi hz,newVar,newRow]
theorem ok_box {t : TypeId} {x : Operand} {v : AV} (hop : o.op = .box t x) (hh : HRel X φ w H) (r : Rep (Rd X φ w) φ v (a.eval x)) (hs : allLeaf v.cells = true) :
  Ok P X φ w o a (.ptr H.length 0) (H ++ [some v.cells]) := by
 obtain ⟨hcs,_⟩ := r.cs hs;obtain ⟨h1,h2⟩ := alloc_ok hh (w1 := w) (arr := (a.eval x).cells) (e := t) rfl rfl rfl rfl (by rw [hcs.1]; simp) (hcs.at (by simp));refine Ok.value ?_ (new_ptr hh.len) h1 h2;simp [execOp,hop,Instr.box,newVar,newRow]

theorem ok_ld {t : TypeId} {x : Operand} {y : E} {ag : Option Nat} {v : AV} {H' : Heap} {fl : Fp} {call : Nat -> List AV -> Heap -> Option (AV × Heap)} (hop : o.op = .load t x) (hh : HRel X φ w H) (r : Rep (Rd X φ w) φ (ev c env y) (a.eval x))
  (ha : aggOf P t = some ag) (hs : aOp c call env H (.ld ag y) = some (v,H',fl)) : Ok P X φ w o a v H' := by
 have go : ∀ {cs : List AV} {ad : Addr},a.eval x = .pointer (some ad) -> Plc X φ w cs ad -> rdc ag cs = some v -> Ok P X φ w o a v H := by
  intro cs ad hx hp hv;obtain ⟨u,h1,h2⟩ := load_ok ha hv hp;exact Ok.quiet (by simp [execOp,hop,hx,Instr.loadAt,Instr.sureAddr,h1]) h2 hh
 simp only [aOp] at hs;split at hs
 ·rename_i cs hc;split at hs
  ·rename_i u hu;simp at hs;obtain ⟨rfl,rfl,rfl⟩ := hs;rw [hc] at r;obtain ⟨ad,h1,h2⟩ := Plc.of_fptr r;exact go h1 h2 hu
  ·cases hs
 ·rename_i b off hc;split at hs
  ·rename_i cs hb;split at hs
   ·rename_i u hu;simp at hs;obtain ⟨rfl,rfl,rfl⟩ := hs;rw [hc] at r;obtain ⟨g,sz,arr,e,h1,_,_,_,_,_,_,h2⟩ := Plc.of_ptr hh hb r;exact go h1 h2 hu
   ·cases hs
  ·cases hs
 ·cases hs

theorem ovw_length {cs vs : List AV} {off : Nat} (h : off + vs.length <= cs.length) : (ovw cs off vs).length = cs.length := by
 unfold ovw;simp only [List.length_append,List.length_take,List.length_drop];omega
theorem seg_get (l us : List Value) (off n i : Nat) (h : off + us.length <= n) (hn : n <= l.length) (hi : i < n) :
  (l.take off ++ us ++ l.drop (off + us.length))[i]? = ((l.take n).take off ++ us ++ (l.take n).drop (off + us.length))[i]? := by
 have e1 : (l.take off).length = off := by simp; omega
 have e2 : ((l.take n).take off).length = off := by simp; omega
 by_cases h1 : i < off
 ·rw [List.append_assoc,List.append_assoc,List.getElem?_append_left (by omega),List.getElem?_append_left (by omega),List.getElem?_take_of_lt h1,List.getElem?_take_of_lt h1,List.getElem?_take_of_lt hi]
 ·by_cases h2 : i < off + us.length
  ·have f1 : i < (l.take off ++ us).length := by rw [List.length_append,e1]; omega
   have f2 : i < ((l.take n).take off ++ us).length := by rw [List.length_append,e2]; omega
   rw [List.getElem?_append_left f1,List.getElem?_append_left f2,List.getElem?_append_right (by omega),List.getElem?_append_right (by omega),e1,e2]
  ·have f1 : (l.take off ++ us).length = off + us.length := by rw [List.length_append,e1]
   have f2 : ((l.take n).take off ++ us).length = off + us.length := by rw [List.length_append,e2]
   rw [List.getElem?_append_right (by omega),List.getElem?_append_right (by omega),f1,f2,List.getElem?_drop,List.getElem?_drop,List.getElem?_take_of_lt (by omega)]
theorem write_ok (hh : HRel X φ w H) {b off : Nat} {cs : List AV} (hb : blk H b = some cs) {v : Value} (r : Rep (Rd X φ w) φ (.ptr b off) v) {ds : List AV} {us : List Value} (hcs : Cs X φ w ds us)
  (h1 : ∀ u ∈ us,u.oneCell' = true) (hfit : off + ds.length <= cs.length) :
  ∃ g w',v = .pointer (some ⟨g,off,none⟩) /\ (storeCells ⟨g,off,none⟩ us).run P w = .ok () w' /\ HRel X φ w' (H.set b (some (ovw cs off ds))) /\ Adv φ w φ w' := by
 obtain ⟨g,sz,arr,e,rfl,hφ,hg,hsz,hle,hX,hm,_⟩ := Plc.of_ptr hh hb r;have hst := run_storeCells_at P g off e us 0 arr w hg (by rw [<- hcs.1]; omega) h1;simp only [Nat.add_zero] at hst
 have hsize : (arr.toList.take off ++ us ++ arr.toList.drop (off + us.length)).toArray.size = arr.size := by
  simp only [List.size_toArray,List.length_append,List.length_take,List.length_drop,Array.length_toList,<- hcs.1]; omega
 have key : ∀ (i : Nat) (x : AV),(ovw cs off ds)[i]? = some x -> ∃ u,(arr.toList.take off ++ us ++ arr.toList.drop (off + us.length)).toArray[i]? = some u /\ Rep (Rd X φ w) φ x u := by
  intro i x hx
  have hcs0 : Cs X φ w (cs.take cs.length) (arr.toList.take cs.length) := by
   refine ⟨by simp; omega,fun i c u hc hu => ?_⟩;have hi : i < cs.length := by have := lt_of_getElem? hc; simp at this; omega
   rw [List.getElem?_take_of_lt hi] at hc hu;obtain ⟨u',h1,h2⟩ := hm i c hc;simp at hu;rw [h1] at hu;simp at hu;subst hu;exact h2
  rw [List.take_length] at hcs0;have hov := hcs0.ovw hcs off;obtain ⟨u,hu,r⟩ := hov.get hx;refine ⟨u,?_,r⟩;have hi : i < cs.length := by have := lt_of_getElem? hx; rw [ovw_length hfit] at this; exact this
  have hul := hcs.1;simp only [List.getElem?_toArray];rw [<- hu];exact seg_get arr.toList us off cs.length i (by omega) (by simp; omega) hi
 obtain ⟨k1,k2⟩ := hh.store (cs' := ovw cs off ds) (arr' := (arr.toList.take off ++ us ++ arr.toList.drop (off + us.length)).toArray) hφ hg hsz hsize rfl hX
  (by rw [ovw_length hfit,hsize]; omega) key
 exact ⟨g,_,rfl,hst,k1,k2⟩
theorem ok_st {t : TypeId} {x y : Operand} {b off k : Nat} {cs : List AV} {v : AV} (hop : o.op = .store t x y) (hh : HRel X φ w H) (hb : blk H b = some cs) (hk : sizeIs P t k = true)
  (rx : Rep (Rd X φ w) φ (.ptr b off) (a.eval x)) (ry : Rep (Rd X φ w) φ v (a.eval y)) (hl : v.cells.length = k) (hfit : off + k <= cs.length) (hs : allLeaf v.cells = true) :
  Ok P X φ w o a .undef (H.set b (some (ovw cs off v.cells))) := by
 obtain ⟨hcs,h1⟩ := ry.cs hs;obtain ⟨g,w',hx,hst,k1,k2⟩ := write_ok (P := P) hh hb rx hcs h1 (by omega);refine Ok.skip ?_ k1 k2;unfold sizeIs at hk;split at hk
 ·rename_i i hi;simp at hk;have hsz : (a.eval y).cells.size = i.size := by have := hcs.1; simp at this; omega
  simp [execOp,hop,hx,Instr.storeAt,Instr.sureAddr,storeVar,run_size hi,hsz,hst]
 ·cases hk

/-! Composite literals -/
theorem foldl_fill (off : Nat) : ∀ (l : List Value) (n : Nat) (arr : Array Value),
  ((l.zipIdx n).foldl (fun cs (p : Value × Nat) => cs.setIfInBounds (off + p.2) p.1) arr).size = arr.size /\
  (off + n + l.length <= arr.size -> ((l.zipIdx n).foldl (fun cs (p : Value × Nat) => cs.setIfInBounds (off + p.2) p.1) arr).toList = arr.toList.take (off + n) ++ l ++ arr.toList.drop (off + n + l.length))
 | [],n,arr => by simp
 | v :: r,n,arr => by
   simp only [List.zipIdx_cons,List.foldl_cons];obtain ⟨h1,h2⟩ := foldl_fill off r (n + 1) (arr.setIfInBounds (off + n) v);refine ⟨by rw [h1]; simp,fun hfit => ?_⟩;simp only [List.length_cons] at hfit;rw [h2 (by simp; omega)];apply List.ext_getElem?;intro i;simp only [Array.toList_setIfInBounds,List.length_cons];by_cases h0 : i < off + n
   ·rw [List.getElem?_append_left (by simp; omega),List.getElem?_append_left (by simp; omega),List.getElem?_append_left (by simp; omega),List.getElem?_append_left (by simp; omega),
     List.getElem?_take_of_lt (by omega),List.getElem?_take_of_lt h0,List.getElem?_set_ne (by omega)]
   ·by_cases h3 : i = off + n
    ·subst h3
     rw [List.getElem?_append_left (by simp; omega),List.getElem?_append_left (by simp; omega),List.getElem?_append_left (by simp; omega),List.getElem?_append_right (by simp; omega),
      List.getElem?_take_of_lt (by omega),List.getElem?_set_self (by simp; omega)]
     have e1 : (arr.toList.take (off + n)).length = off + n := by simp; omega
     rw [e1]; simp
    ·by_cases h4 : i < off + n + (r.length + 1)
     ·rw [List.getElem?_append_left (by simp; omega),List.getElem?_append_right (by simp; omega),List.getElem?_append_left (by simp; omega),List.getElem?_append_right (by simp; omega)];have e1 : (arr.toList.take (off + n)).length = off + n := by simp; omega
      have e2 : ((arr.toList.set (off + n) v).take (off + (n + 1))).length = off + n + 1 := by simp; omega
      rw [e1,e2,show i - (off + n) = (i - (off + n + 1)) + 1 by omega,List.getElem?_cons_succ]
     ·rw [List.getElem?_append_right (by simp; omega),List.getElem?_append_right (by simp; omega),List.getElem?_drop,List.getElem?_drop,List.getElem?_set_ne (by simp; omega)];congr 1;simp only [List.length_append,List.length_take,List.length_set,Array.length_toList,List.length_cons];omega
theorem fill_step (v : Value) (off : Nat) (arr : Array Value) (h : off + v.cells.size <= arr.size) :
  (v.cells.zipIdx.foldl (fun cs (p : Value × Nat) => cs.setIfInBounds (off + p.2) p.1) arr).toList = arr.toList.take off ++ v.cells.toList ++ arr.toList.drop (off + v.cells.toList.length) := by
 have h2 := (foldl_fill off v.cells.toList 0 arr).2 (by simpa using h);rw [<- Array.foldl_toList,Array.toList_zipIdx];simpa using h2
theorem fill_ok (he : ERel X φ w env a.tmps) (hg : GlOK c X φ w) {place : Nat -> Option (Nat × Nat)} : ∀ {ps : List (Nat × Operand)} {qs : List (Nat × Nat × E)} {zs cs : List AV} {arr : Array Value},
  chkPs place ps qs = true -> Cs X φ w zs arr.toList -> fillA c env zs qs = some cs -> ∃ arr',Instr.fill place arr (ps.map fun p => (p.1,a.eval p.2)) = some arr' /\ Cs X φ w cs arr'.toList
 | [],[],zs,cs,arr,_,hz,hf => by simp [fillA] at hf; subst hf; exact ⟨arr,rfl,hz⟩
 | [],_ :: _,_,_,_,h,_,_ => by simp [chkPs] at h
 | _ :: _,[],_,_,_,h,_,_ => by simp [chkPs] at h
 | (i,x) :: r,(off,sz,y) :: s,zs,cs,arr,h,hz,hf => by
   simp only [chkPs,Bool.and_eq_true,decide_eq_true_eq] at h;obtain ⟨⟨hp,hx⟩,hrest⟩ := h;simp only [fillA] at hf;split at hf
   ·rename_i hc;obtain ⟨h1,h2,h3⟩ := hc;obtain ⟨hcs,_⟩ := (eval_rep he hg hx).cs h3;have hsz : (a.eval x).cells.size = sz := by have := hcs.1; simp at this; omega
    have hzl : zs.length = arr.size := by simpa using hz.1
    have hstep := fill_step (a.eval x) off arr (by omega)
    have hcs2 : Cs X φ w (ovw zs off (ev c env y).cells) ((a.eval x).cells.zipIdx.foldl (fun cs (p : Value × Nat) => cs.setIfInBounds (off + p.2) p.1) arr).toList := by
     rw [hstep]; exact hz.ovw hcs off
    obtain ⟨arr',e1,e2⟩ := fill_ok he hg hrest hcs2 hf;refine ⟨arr',?_,e2⟩;simp only [List.map_cons,Instr.fill,hp];rw [if_neg (by simp [hsz]; omega)];exact e1
   ·cases hf

theorem run_places (fs : List Field) (h : ∀ f ∈ fs,(P.info? f.type).isSome = true) :
  (fs.mapM (m := Sem) fun f => do pure (f.offset,<- sizeOf f.type)).run P w = .ok (fs.map fun f => (f.offset,((P.info? f.type).map (·.size)).getD 0)) w := by
 induction fs with
 | nil => rfl
 | cons f r ih =>
   obtain ⟨i,hi⟩ := Option.isSome_iff_exists.1 (h f (by simp));have ih' := ih fun g hg => h g (by simp [hg]);simp only [List.mapM_cons,Sem.run_bind,run_size hi,Result.andThen_ok,Sem.run_pure,ih',List.map_cons,hi,Option.map_some,Option.getD_some]
theorem ok_build {t : TypeId} {ps : Array (Nat × Operand)} {qs : List (Nat × Nat × E)} {zs cs : List AV} (hop : o.op = .build t ps) (hh : HRel X φ w H) (he : ERel X φ w env a.tmps) (hg : GlOK c X φ w)
  (hz : zeroIs P t zs = true) (hu : (match P.underlying t with
  | some (.struct fs) => (fs.toList.all fun f => (P.info? f.type).isSome) && chkPs (structPlace P fs) ps.toList qs
  | some (.array _ e) => match P.info? e with
    | some i => chkPs (fun j => some (j * i.size,i.size)) ps.toList qs
    | none => false
  | _ => false) = true) (hf : fillA c env zs qs = some cs) : Ok P X φ w o a (.agg cs) H := by
 obtain ⟨i,z,hi,hz,hcs,_⟩ := zeroIs_cs (X := X) (φ := φ) (w := w) hz;split at hu
 ·rename_i fs hut;simp only [Bool.and_eq_true,List.all_eq_true] at hu;obtain ⟨arr',e1,e2⟩ := fill_ok he hg hu.2 hcs hf;refine Ok.quiet (v' := .agg arr') ?_ (.agg _ _ _ (by simpa using e2.1) fun i c v hc hv => e2.2 i c v hc (by simpa using hv)) hh;have hpl := run_places (P := P) (w := w) fs.toList hu.1
  have hpl2 : (fs.mapM (m := Sem) fun f => do pure (f.offset,<- sizeOf f.type)).run P w = .ok (fs.toList.map fun f => (f.offset,((P.info? f.type).map (·.size)).getD 0)).toArray w := by
   rw [<- Array.toArray_toList (xs := fs),List.mapM_toArray];simp only [Sem.run_map,hpl,Result.andThen_ok,Array.toArray_toList]
  have hplace : (fun j => ((fs.toList.map fun f => (f.offset,((P.info? f.type).map (·.size)).getD 0)).toArray)[j]?) = structPlace P fs := by
   funext j;simp only [List.getElem?_toArray,List.getElem?_map,Array.getElem?_toList,structPlace];cases hfj : fs[j]? with
   | none => rfl
   | some f =>
     obtain ⟨i,hi⟩ := Option.isSome_iff_exists.1 (hu.1 f (Array.mem_toList_iff.2 (Array.mem_of_getElem? hfj)));simp [hi]
  simp only [execOp,hop,Instr.build,Sem.run_bind,run_zero hi hz,Result.andThen_ok,run_underlying hut,hpl2,hplace];have : (Array.map (fun x => (x.1,a.eval x.2)) ps).toList = ps.toList.map fun p => (p.1,a.eval p.2) := by simp
  simp only [this,e1,Sem.run_pure,Result.andThen_ok]
 ·rename_i n e hut;split at hu
  ·rename_i ie hie;obtain ⟨arr',e1,e2⟩ := fill_ok he hg hu hcs hf;refine Ok.quiet (v' := .agg arr') ?_ (.agg _ _ _ (by simpa using e2.1) fun i c v hc hv => e2.2 i c v hc (by simpa using hv)) hh;have : (Array.map (fun x => (x.1,a.eval x.2)) ps).toList = ps.toList.map fun p => (p.1,a.eval p.2) := by simp
   simp only [execOp,hop,Instr.build,Sem.run_bind,run_zero hi hz,Result.andThen_ok,run_underlying hut,run_size hie,this,e1,Sem.run_pure]
  ·cases hu
 ·cases hu

theorem rep_get (zs : List AV) : ∀ (n i : Nat),i < n * zs.length -> (rep zs n)[i]? = zs[i % zs.length]?
 | 0,i,h => by simp at h
 | n + 1,i,h => by
   rw [rep];by_cases hi : i < zs.length
   ·rw [List.getElem?_append_left hi,Nat.mod_eq_of_lt hi]
   ·rw [List.getElem?_append_right (by omega),rep_get zs n _ (by rw [Nat.add_mul] at h; omega),<- Nat.mod_eq_sub_mod (by omega)]
theorem rep_length (zs : List AV) : ∀ n,(rep zs n).length = n * zs.length
 | 0 => by simp [rep]
 | n + 1 => by rw [rep,List.length_append,rep_length zs n,Nat.add_mul]; omega
theorem rep_leaf {zs : List AV} (h : allLeaf zs = true) : ∀ n,allLeaf (rep zs n) = true := by
 have app : ∀ {a b : List AV},allLeaf a = true -> allLeaf b = true -> allLeaf (a ++ b) = true := by
  intro a
  induction a with
  | nil => intro b _ hb; exact hb
  | cons x r ih => intro b ha hb; simp only [allLeaf,Bool.and_eq_true,List.cons_append] at *; exact ⟨ha.1,ih ha.2 hb⟩
 intro n
 induction n with
 | zero => rfl
 | succ n ih => exact app h ih
theorem rep_cs {zs : List AV} {z : Array Value} (h : Cs X φ w zs z.toList) {n m : Nat} (hm : n * z.size <= m) {arr : Array Value} (hz : arr.size = m) (ha : ∀ i,i < m -> arr[i]? = some (z[i % z.size]!)) :
  ∀ (i : Nat) (c : AV),(rep zs n)[i]? = some c -> ∃ u,arr[i]? = some u /\ Rep (Rd X φ w) φ c u := by
 intro i c hc;have hzl : zs.length = z.size := by simpa using h.1
 have hi : i < n * zs.length := by have := lt_of_getElem? hc; rwa [rep_length] at this
 rw [rep_get zs n i hi] at hc;rw [hzl] at hc hi;refine ⟨_,ha i (by omega),?_⟩;obtain ⟨u,hu,r⟩ := h.get hc;simp at hu;rw [getElem!_def,hu];exact r
theorem ok_bslice {t : TypeId} {n k : Nat} {ps : Array (Nat × Operand)} {qs : List (Nat × Nat × E)} {zs cs : List AV} (hop : o.op = .buildSlice t n ps) (hh : HRel X φ w H) (he : ERel X φ w env a.tmps) (hg : GlOK c X φ w)
  (hk : elemIs P t k = true) (hz : elemZero P t zs = true) (hn : n * k <= 16777216) (hq : chkPs (fun j => some (j * k,k)) ps.toList qs = true) (hf : fillA c env (rep zs n) qs = some cs) :
  Ok P X φ w o a (.sl k H.length 0 n) (H ++ [some cs]) := by
 obtain ⟨e,i,z,hu,hi,hik,hk0,hby,hiz,hzk⟩ := elemIs_spec hk;simp only [elemZero,hu] at hz;obtain ⟨i',z',hi',hz',hcs,_⟩ := zeroIs_cs (X := X) (φ := φ) (w := w) hz;rw [hi] at hi';simp at hi';subst hi';rw [hiz] at hz';simp at hz';subst hz';have hzl : zs.length = k := by have := hcs.1; simp at this; omega
 have hcs0 : Cs X φ w (rep zs n) ((Array.range (n * k)).map (z.cells[· % z.cells.size]!)).toList := by
  refine ⟨by rw [rep_length,hzl]; simp,fun j c v hc hv => ?_⟩;obtain ⟨u,h1,h2⟩ := rep_cs hcs (n := n) (m := n * k) (by rw [hzk]; omega) (arr := (Array.range (n * k)).map (z.cells[· % z.cells.size]!)) (by simp) (fun i hi => by simp [hi]) j c hc;rw [Array.getElem?_toList,h1] at hv;simp at hv;subst hv;exact h2
 obtain ⟨arr',e1,e2⟩ := fill_ok he hg hq hcs0 hf
 have hsz : arr'.size = n * k := by
  have fl : ∀ {ps : List (Nat × Nat × E)} {zs cs : List AV},fillA c env zs ps = some cs -> cs.length = zs.length := by
   intro ps
   induction ps with
   | nil => intro zs cs h; simp [fillA] at h; rw [h]
   | cons p r ih =>
     intro zs cs h;obtain ⟨o,s,y⟩ := p;simp only [fillA] at h;split at h
     ·rename_i hc; rw [ih h,ovw_length (by omega)]
     ·cases h
  have h1 := fl hf;have h2 := e2.1;simp only [Array.length_toList] at h2;rw [<- h2,h1,rep_length,hzl]
 obtain ⟨h1,h2⟩ := alloc_ok hh (w1 := w) (arr := arr') (e := e) rfl rfl rfl rfl (by rw [e2.1]; simp) (e2.at (by simp));refine Ok.value ?_ (new_sl hh.len (Nat.le_refl n) (by omega)) h1 h2;have hps : (Array.map (fun x => (x.1,a.eval x.2)) ps).toList = ps.toList.map fun p => (p.1,a.eval p.2) := by simp
 have hn' : ¬ (n * k > 2 ^ 24) := by have : (2:Nat) ^ 24 = 16777216 := by decide
                                     omega
 have hzero : (if n * i.size = 0 then (pure #[] : Sem (Array Value)) else do pure (<- zeroValue e).cells).run P w = .ok (if n * k = 0 then #[] else z.cells) w := by
  rw [hik];split <;> simp [run_zero hi hiz]
 have hcells : (Array.range (n * k)).map ((if n * k = 0 then #[] else z.cells)[· % (if n * k = 0 then #[] else z.cells).size]!) = (Array.range (n * k)).map (z.cells[· % z.cells.size]!) := by
  by_cases h0 : n * k = 0
  ·simp [h0]
  ·simp [h0]
 simp only [execOp,hop,Instr.buildSlice,Sem.run_bind,run_underlying hu,Result.andThen_ok,run_size hi,hik,Sem.run_ite,hn',if_false];rw [hik] at hzero;simp only [Sem.run_ite,Sem.run_bind,Sem.run_pure,run_zero hi hiz,Result.andThen_ok] at hzero ⊢;have e1' := e1;rw [<- hcells,<- hps] at e1';split
 ·rename_i h0;simp only [h0,if_true] at e1' ⊢;simp only [Result.andThen_ok,Array.range_zero',Array.map_empty] at e1' ⊢;rw [show (Instr.fill (fun i => some (i * k,k)) #[] (Array.map (fun x => (x.1,a.eval x.2)) ps).toList) = some arr' from e1'];simp [newRow]
 ·rename_i h0;simp only [h0,if_false,Result.andThen_ok] at e1' ⊢;rw [show (Instr.fill (fun i => some (i * k,k)) ((Array.range (n * k)).map (z.cells[· % z.cells.size]!)) (Array.map (fun x => (x.1,a.eval x.2)) ps).toList) = some arr' from e1'];simp [newRow]
end
end Go.Am

/- What one operation of the dump does: numbers, tests, slices, append. -/
namespace Go.Am
section
variable {P : Program} {c : Cfg} {X : Nat -> Prop} {φ : Phi} {w : World} {env : Env} {H : Heap} {a : Act} {o : Oper}

theorem ok_pick {x y z : Operand} {t : Bool} {u v : AV} (hop : o.op = .pick x y z) (hh : HRel X φ w H) (r : Rep (Rd X φ w) φ (.bool t) (a.eval x)) (ru : Rep (Rd X φ w) φ u (a.eval y)) (rv : Rep (Rd X φ w) φ v (a.eval z)) :
  Ok P X φ w o a (if t then u else v) H := by
 have hx := rep_bool r;cases t
 ·exact Ok.quiet (v' := a.eval z) (by simp [execOp,hop,hx,asBool]) (by simpa using rv) hh
 ·exact Ok.quiet (v' := a.eval y) (by simp [execOp,hop,hx,asBool]) (by simpa using ru) hh
theorem ok_bin {op : BinOp} {t t' : TypeId} {x y : Operand} {u v r : AV} (hop : o.op = .binOp op t x y t') (hh : HRel X φ w H) (ru : Rep (Rd X φ w) φ u (a.eval x)) (rv : Rep (Rd X φ w) φ v (a.eval y)) (hr : binA op u v = some r) :
  Ok P X φ w o a r H := by
 have hr' := hr;unfold binA at hr';split at hr'
 ·rename_i k n k' n';have hx := rep_int ru;have hy := rep_int rv;obtain ⟨v',h1,h2⟩ := run_bin (P := P) (w := w) (t := t) hr;exact Ok.quiet (v' := v') (by simp [execOp,hop,hx,hy,eqGuard_at_int,h1]) (h2 _ _) hh
 ·cases hr'

theorem run_eq_nsl (d : Nat) {t e : TypeId} (h : P.underlying t = some (.slice e)) (x : Option Addr) (n m : Nat) : (Op.equalIn (d + 1) t (.slice x n m) (.slice none 0 0)).run P w = .ok x.isNone w := by
 cases x <;> simp [Op.equalIn,run_underlying h]
theorem run_eq_nptr (d : Nat) {t e : TypeId} (h : P.underlying t = some (.pointer e)) (x : Option Addr) : (Op.equalIn (d + 1) t (.pointer x) (.pointer none)).run P w = .ok x.isNone w := by
 cases x <;> simp [Op.equalIn,run_underlying h]
theorem run_eq_nfn (d : Nat) {t : TypeId} {ps rs : Array TypeId} {vr : Bool} (h : P.underlying t = some (.func ps rs vr)) (f : Fn) (x y : Array Value) : (Op.equalIn (d + 1) t (.func f x y) .nilFunc).run P w = .ok false w := by
 simp [Op.equalIn,run_underlying h]
theorem run_eq_nfn0 (d : Nat) {t : TypeId} {ps rs : Array TypeId} {vr : Bool} (h : P.underlying t = some (.func ps rs vr)) : (Op.equalIn (d + 1) t .nilFunc .nilFunc).run P w = .ok true w := by
 simp [Op.equalIn,run_underlying h]
theorem run_eqn {op : BinOp} {ng : Bool} {t : TypeId} {x y : Operand} {u v : Value} {e : Bool} (ho : eqOp op ng = true) (hg : (eqGuard op t x y u v).run P w = .ok () w) (hb : ∀ op',binOp .eql t u v = (do pure (.bool (<- Op.equal t u v))) /\ (op' = BinOp.neq -> binOp .neq t u v = (do pure (.bool (!(<- Op.equal t u v))))))
  (h : (Op.equalIn 10000 t u v).run P w = .ok e w) : (do eqGuard op t x y u v; binOp op t u v).run P w = .ok (.bool (if ng then !e else e)) w := by
 have h' : (Op.equal t u v).run P w = .ok e w := by unfold Op.equal Op.maxDepth; exact h
 cases op <;> simp [eqOp] at ho
 ·subst ho;simp only [Sem.run_bind,hg,Result.andThen_ok,(hb .eql).1,h',Sem.run_pure];simp
 ·subst ho;simp only [Sem.run_bind,hg,Result.andThen_ok,(hb .neq).2 rfl,h',Sem.run_pure];simp
theorem ok_eq {op : BinOp} {ng : Bool} {et : Et} {t t' : TypeId} {x y : Operand} {u v : AV} {e : Bool} (hop : o.op = .binOp op t x y t') (hh : HRel X φ w H) (ho : eqOp op ng = true) (hc : chkEt P t et = true) (ru : Rep (Rd X φ w) φ u (a.eval x)) (rv : Rep (Rd X φ w) φ v (a.eval y)) (hr : eqA et u v = some e) :
  Ok P X φ w o a (.bool (if ng then !e else e)) H := by
 have fin : ∀ {p q : Value},a.eval x = p -> a.eval y = q -> (eqGuard op t x y p q).run P w = .ok () w ->
   (∀ op',binOp .eql t p q = (do pure (.bool (<- Op.equal t p q))) /\ (op' = BinOp.neq -> binOp .neq t p q = (do pure (.bool (!(<- Op.equal t p q)))))) -> (Op.equalIn 10000 t p q).run P w = .ok e w ->
   Ok P X φ w o a (.bool (if ng then !e else e)) H := by
  intro p q hp hq hg hb h;have := run_eqn (x := x) (y := y) ho hg hb h;refine Ok.quiet ?_ (.bool _ _) hh;simp only [execOp,hop,hp,hq,Sem.run_bind,Result.andThen_ok,Sem.run_pure] at this ⊢;rw [this];rfl
 unfold eqA at hr;split at hr
 ·rename_i b b';simp at hr;subst hr;have hx := rep_bool ru;have hy := rep_bool rv;simp only [chkEt] at hc;split at hc
  ·rename_i hu;refine fin hx hy (by rw [eqGuard_at_bool]; rfl) (fun _ => ⟨by simp [binOp],fun _ => by simp [binOp]⟩) ?_;exact run_equalIn_bool w 9999 t b b' hu
  ·cases hc
 ·rename_i l xs ys;generalize hx : a.eval x = p at ru;generalize hy : a.eval y = q at rv;cases ru with
  | agg _ _ vx hlx hrx =>
    cases rv with
    | agg _ _ vy hly hry =>
      simp only [chkEt] at hc;split at hc
      ·rename_i fs hu;simp only [Bool.and_eq_true,Bool.not_eq_true'] at hc;obtain ⟨⟨hc1,hc2⟩,hc3⟩ := hc;have hfo : P.fieldsOf t = fs := by simp [Program.fieldsOf,hu]
       refine fin hx hy (run_eqGuard_agg w op t x y vx vy hc2) (fun _ => ⟨by simp [binOp],fun _ => by simp [binOp]⟩) ?_;rw [show (10000 : Nat) = 9999 + 1 from rfl,run_equalIn_struct w 9999 t vx vy (by rw [hu,hfo]) hc1,hfo];exact run_eqFields 9998 fs.toList l 0 xs ys vx vy e hc3 (by simpa using hr) hlx hly hrx hry
      ·cases hc
 ·generalize hy : a.eval y = q at rv;cases rv;simp only [chkEt] at hc;split at hc
  ·rename_i el hu
   have sl : ∀ {ad : Option Addr} {n m : Nat},a.eval x = .slice ad n m -> ad.isNone = e -> Ok P X φ w o a (.bool (if ng then !e else e)) H := by
    intro ad n m hx he;subst he;exact fin hx hy (by rw [eqGuard_at_slice]; rfl) (fun _ => ⟨by simp [binOp],fun _ => by simp [binOp]⟩) (run_eq_nsl 9999 hu ad n m)
   generalize hx : a.eval x = p at ru;cases ru <;> simp [isNil] at hr
   case nils => exact sl hx (by simpa using hr)
   case sl => exact sl hx (by simpa using hr)
   case lst xs _ _ _ _ _ _ _ _ _ =>
    cases xs <;> simp [isNil] at hr
    exact sl hx (by simpa using hr)
  ·cases hc
 ·generalize hy : a.eval y = q at rv;cases rv;simp only [chkEt] at hc;split at hc
  ·rename_i el hu
   have pt : ∀ {ad : Option Addr},a.eval x = .pointer ad -> ad.isNone = e -> Ok P X φ w o a (.bool (if ng then !e else e)) H := by
    intro ad hx he;subst he;exact fin hx hy (by rw [eqGuard_at_pointer]; rfl) (fun _ => ⟨by cases ad <;> simp [binOp],fun _ => by cases ad <;> simp [binOp]⟩) (run_eq_nptr 9999 hu ad)
   generalize hx : a.eval x = p at ru;cases ru <;> simp [isNil] at hr
   case nilp => exact pt hx (by simpa using hr)
   case ptr => exact pt hx (by simpa using hr)
   case fptr => exact pt hx (by simpa using hr)
  ·cases hc
 ·generalize hy : a.eval y = q at rv;cases rv;simp only [chkEt] at hc;split at hc
  ·rename_i ps rs vr hu;generalize hx : a.eval x = p at ru;cases ru <;> simp [isNil] at hr
   case nilf => subst hr; exact fin hx hy (by rw [eqGuard_at_nilFunc]; rfl) (fun _ => ⟨by simp [binOp],fun _ => by simp [binOp]⟩) (run_eq_nfn0 9999 hu)
   case func => subst hr; exact fin hx hy (by rw [eqGuard_at_func]; rfl) (fun _ => ⟨by simp [binOp],fun _ => by simp [binOp]⟩) (run_eq_nfn 9999 hu _ _ _)
  ·cases hc
 ·cases hr
theorem ok_un {op : UnOp} {t : TypeId} {x : Operand} {u r : AV} (hop : o.op = .unOp op t x) (hh : HRel X φ w H) (ru : Rep (Rd X φ w) φ u (a.eval x)) (hr : unA op u = some r) : Ok P X φ w o a r H := by
 unfold unA at hr;split at hr
 ·have hx := rep_int ru;simp at hr; subst hr;exact Ok.quiet (v' := .int _ _) (by simp [execOp,hop,hx,Op.unary,Op.intArith]) (.int _ _ _) hh
 ·have hx := rep_int ru;simp at hr; subst hr;exact Ok.quiet (by simp [execOp,hop,hx,Op.unary,intBits_xor]) (.int _ _ _) hh
 ·have hx := rep_bool ru;simp at hr; subst hr;exact Ok.quiet (by simp [execOp,hop,hx,Op.unary]) (.bool _ _) hh
 ·cases hr
theorem ok_cvt {s d : TypeId} {x : Operand} {k k' : IntKind} {n : Int} (hop : o.op = .convert s d x) (hh : HRel X φ w H) (hs : (P.underlying s).isSome = true) (hd : P.underlying d = some (.int k)) (ru : Rep (Rd X φ w) φ (.int k' n) (a.eval x)) :
  Ok P X φ w o a (.int k (k.wrap n)) H := by
 have hx := rep_int ru;obtain ⟨d',hd'⟩ := Option.isSome_iff_exists.mp hs;exact Ok.quiet (by simp [execOp,hop,hx,convert,run_underlying hd',run_underlying hd,Conv.intToInt]) (.int _ _ _) hh
theorem ok_mkf {fn : Fn} {as bs : Array Operand} {xs ys : List E} (hop : o.op = .makeFunc fn as bs) (hh : HRel X φ w H) (he : ERel X φ w env a.tmps) (hg : GlOK c X φ w) (ha : chkEs as.toList xs = true) (hb : chkEs bs.toList ys = true) :
  Ok P X φ w o a (.func fn (evs c env xs) (evs c env ys)) H := by
 obtain ⟨l1,h1⟩ := evals_rep he hg ha;obtain ⟨l2,h2⟩ := evals_rep he hg hb;refine Ok.quiet (v' := .func fn (as.map a.eval) (bs.map a.eval)) (by simp [execOp,hop,Instr.makeFunc]) (.func _ _ _ _ _ _ (by simp [l1]) (by simp [l2]) (fun i c v hc hv => h1 i c v hc ?_) (fun i c v hc hv => h2 i c v hc ?_)) hh
 ·simpa using hv
 ·simpa using hv
theorem ok_mks {t : TypeId} {k : Nat} {zs : List AV} {x y : Operand} {k1 k2 : IntKind} {l cp : Int} (hop : o.op = .makeSlice t x y) (hh : HRel X φ w H) (hk : elemIs P t k = true) (hz : elemZero P t zs = true)
  (rx : Rep (Rd X φ w) φ (.int k1 l) (a.eval x)) (ry : Rep (Rd X φ w) φ (.int k2 cp) (a.eval y)) (h0 : 0 <= l) (h1 : l <= cp) (h2 : cp <= (LIM : Int)) :
  Ok P X φ w o a (.sl k H.length 0 l.toNat) (H ++ [some (rep zs l.toNat)]) := by
 obtain ⟨e,i,z,hu,hi,hik,hk0,hby,hiz,hzk⟩ := elemIs_spec hk;simp only [elemZero,hu] at hz;obtain ⟨i',z',hi',hz',hcs,_⟩ := zeroIs_cs (X := X) (φ := φ) (w := w) hz;rw [hi] at hi';simp at hi';subst hi';rw [hiz] at hz';simp at hz';subst hz';have hzl : zs.length = k := by have := hcs.1; simp at this; omega
 have hx := rep_int rx;have hy := rep_int ry;have hL : (LIM : Int) = 4294967296 := rfl
 have hb : (i.bytes : Int) * cp <= 281474976710656 := by
  have h3 : (i.bytes : Int) * cp <= 1024 * 4294967296 := Int.mul_le_mul (by omega) (by omega) (by omega) (by omega);omega
 have hrun := run_make (P := P) w t e i z hu hi hiz k1 k2 l cp h0 h1 hb (by omega);have hlc : l.toNat <= cp.toNat := by omega
 have hlk : l.toNat * k <= cp.toNat * k := Nat.mul_le_mul_right _ hlc;have hms : (madeCells z.cells (cp.toNat * i.size)).size = cp.toNat * k := by rw [size_madeCells,hik]
 obtain ⟨q1,q2⟩ := alloc_ok hh (w1 := w) (arr := madeCells z.cells (cp.toNat * i.size)) (e := e) (cs := rep zs l.toNat) rfl rfl rfl rfl (by rw [rep_length,hms,hzl]; exact hlk)
  (rep_cs hcs (m := cp.toNat * k) (by rw [hzk]; exact hlk) hms (fun j hj => by rw [hik]; simp [madeCells,hj]))
 refine Ok.value (v' := .slice (some ⟨w.heap.size,0,none⟩) l.toNat cp.toNat) ?_ (new_sl hh.len hlc (by rw [hms]; exact Nat.le_refl _)) q1 q2;simp only [execOp,hop,hx,hy,Sem.run_bind,hrun,Result.andThen_ok,Sem.run_pure]

theorem bnd_spec {x : AV} {hi n : Nat} (h : bnd x hi = some n) : ∃ k i,x = .int k i /\ 0 <= i /\ i <= (hi : Int) /\ n = i.toNat := by
 unfold bnd at h;split at h
 ·rename_i k i;split at h
  ·rename_i hc; simp at h; exact ⟨k,i,rfl,hc.1,hc.2,h.symm⟩
  ·cases h
 ·cases h
theorem idx_spec {x : AV} {len j : Nat} (h : idx x len = some j) : ∃ k i,x = .int k i /\ 0 <= i /\ i < (len : Int) /\ j = i.toNat /\ j < len := by
 unfold idx at h;split at h
 ·rename_i k i;split at h
  ·rename_i hc; simp at h; exact ⟨k,i,rfl,hc.1,hc.2,h.symm,by omega⟩
  ·cases h
 ·cases h
theorem run_sliceBound {k : IntKind} {i : Int} {y : Nat} {cd : BoundsCode} (h0 : 0 <= i) (h1 : i <= (y : Int)) : (Instr.sliceBound (.int k i) y cd).run P w = .ok i.toNat w := by
 simp [Instr.sliceBound,asIntOf,h0,h1]
theorem run_bnd1 (he : ERel X φ w env a.tmps) (hg : GlOK c X φ w) {x : Operand} {y : E} {n m cap : Nat} {cd : BoundsCode} (hx : chkE x y = true) (hn : n <= cap) (h : bnd (ev c env y) n = some m) :
  (Instr.sliceBound (a.eval x) cap cd).run P w = .ok m w /\ m <= n := by
 obtain ⟨k,i,e1,e2,e3,e4⟩ := bnd_spec h;have r := eval_rep (a := a) he hg hx;rw [e1] at r;rw [rep_int r,e4];exact ⟨run_sliceBound e2 (by omega),by omega⟩
theorem run_bounds (he : ERel X φ w env a.tmps) (hg : GlOK c X φ w) {lo hi : Option Operand} {lo' hi' : Option E} {n cap h l : Nat} (hlo : chkEo lo lo' = true) (hhi : chkEo hi hi' = true) (hn : n <= cap)
  (hh : bndO c env n n hi' = some h) (hl : bndO c env 0 h lo' = some l) : (Instr.sliceBounds true n cap (lo.map a.eval) (hi.map a.eval) none).run P w = .ok (l,h,cap) w /\ l <= h /\ h <= n := by
 cases lo <;> cases lo' <;> simp only [chkEo] at hlo <;> try (cases hlo; done)
 all_goals
  cases hi <;> cases hi' <;> simp only [chkEo] at hhi <;> try (cases hhi; done)
 all_goals simp only [bndO] at hh hl
 ·simp at hh hl;subst hh; subst hl;exact ⟨by simp [Instr.sliceBounds],by omega,Nat.le_refl _⟩
 ·obtain ⟨h1,h2⟩ := run_bnd1 (P := P) (cd := .sliceAcap) he hg hhi hn hh;simp at hl;subst hl;exact ⟨by simp [Instr.sliceBounds,h1],by omega,h2⟩
 ·simp at hh;subst hh;obtain ⟨h1,h2⟩ := run_bnd1 (P := P) (cd := .sliceB) he hg hlo (Nat.le_refl _) hl;exact ⟨by simp [Instr.sliceBounds,h1],h2,Nat.le_refl _⟩
 ·obtain ⟨h1,h2⟩ := run_bnd1 (P := P) (cd := .sliceAcap) he hg hhi hn hh;obtain ⟨h3,h4⟩ := run_bnd1 (P := P) (cd := .sliceB) he hg hlo (Nat.le_refl _) hl;exact ⟨by simp [Instr.sliceBounds,h1,h3],h4,h2⟩
theorem run_slc {t e : TypeId} {i : TypeInfo} (hu : P.underlying t = some (.slice e)) (hi : P.info? e = some i) {ad : Option Addr} {n cap l h : Nat} {lo hi' : Option Value} (hb : (Instr.sliceBounds true n cap lo hi' none).run P w = .ok (l,h,cap) w) :
  (Instr.sliceAt t (.slice ad n cap) lo hi' none).run P w = .ok (.slice (if cap = l then ad else ad.map (·.add (l * i.size))) (h - l) (cap - l)) w := by
 simp only [Instr.sliceAt,Instr.slice,Sem.run_bind,run_underlying hu,Result.andThen_ok,hb,run_size hi,Sem.run_pure]
theorem ok_slc {t : TypeId} {k : Nat} {x : Operand} {y : E} {lo hi : Option Operand} {lo' hi' : Option E} {v : AV} {H' : Heap} {fl : Fp} {call : Nat -> List AV -> Heap -> Option (AV × Heap)} (hop : o.op = .slice t x lo hi none) (hh : HRel X φ w H) (he : ERel X φ w env a.tmps) (hg : GlOK c X φ w)
  (hk : elemIs P t k = true) (hx : chkE x y = true) (hlo : chkEo lo lo' = true) (hhi : chkEo hi hi' = true) (hs : aOp c call env H (.slc k y lo' hi') = some (v,H',fl)) : Ok P X φ w o a v H' := by
 obtain ⟨e,i,z,hu,hinf,hik,hk0,hby,hiz,hzk⟩ := elemIs_spec hk;have r := eval_rep (a := a) he hg hx;simp only [aOp] at hs;split at hs
 case h_2 => cases hs
 rename_i n hn;split at hs
 case h_2 => cases hs
 rename_i h hhv;split at hs
 case h_2 => cases hs
 rename_i l hlv
 have fin : ∀ {ad : Option Addr} {cap : Nat},a.eval x = .slice ad n cap -> n <= cap -> l <= h -> h <= n -> (l <= h -> h <= n -> Rep (Rd X φ w) φ v (.slice (if cap = l then ad else ad.map (·.add (l * k))) (h - l) (cap - l))) -> H' = H -> Ok P X φ w o a v H' := by
  intro ad cap hax hnc _ _ hr hH;obtain ⟨h1,h2,h3⟩ := run_bounds (P := P) he hg hlo hhi hnc hhv hlv;have := run_slc (P := P) hu hinf (ad := ad) h1;rw [hik] at this;subst hH;exact Ok.quiet (by simp only [execOp,hop,hax,Option.map_none,Sem.run_bind,this,Result.andThen_ok,Sem.run_pure]) (hr h2 h3) hh
 have le : ∀ cap,n <= cap -> l <= h /\ h <= n := fun cap hc => (run_bounds (P := P) he hg hlo hhi hc hhv hlv).2;obtain ⟨hlh,hhn⟩ := le n (Nat.le_refl _);generalize hy : ev c env y = yv at hs r hn;cases yv <;> simp only [lenA,Option.some.injEq] at hn <;> try (cases hn; done)
 ·subst hn;simp at hs;obtain ⟨rfl,rfl,rfl⟩ := hs;generalize hax : a.eval x = ax at r;cases r;have hh0 : h = 0 := by omega
  have hl0 : l = 0 := by omega
  subst hh0; subst hl0;exact fin hax (Nat.le_refl _) (Nat.le_refl _) (Nat.le_refl _) (fun _ _ => by simp; exact .nils _) rfl
 ·rename_i k' xs;simp only at hs;split at hs
  case isFalse => cases hs
  rename_i hkk;subst hkk;simp at hs;obtain ⟨rfl,rfl,rfl⟩ := hs;generalize hax : a.eval x = ax at r;cases r with
  | lst _ _ _ ad n' cap u hn' hcap hkc hur hr =>
    subst hn;subst hn';refine fin hax hcap hlh hhn (fun _ _ => ?_) rfl;have hlen : ((xs.take h).drop l).length = h - l := by simp; omega
    by_cases hcl : cap = l
    ·have h0 : (xs.take h).drop l = [] := List.eq_nil_of_length_eq_zero (by omega);rw [if_pos hcl,h0];refine .lst _ _ _ _ _ _ u (by simp; omega) (by omega) (by simp) (fun i j x c hx => by simp at hx) (fun i j x c hx => by simp at hx)
    ·rw [if_neg hcl]
     have get : ∀ (i : Nat) (x : AV),((xs.take h).drop l)[i]? = some x -> xs[l + i]? = some x := by
      intro i x hx;rw [List.getElem?_drop,List.getElem?_take] at hx;split at hx
      ·exact hx
      ·cases hx
     refine .lst _ _ _ _ _ _ (fun i j => u (l + i) j) hlen.symm (by omega) (fun x hx => ?_) (fun i j x c hx hc => ?_) (fun i j x c hx hc => hr (l + i) j x c (get i x hx) hc)
     ·obtain ⟨i,hi⟩ := List.getElem?_of_mem hx;exact hkc x (List.mem_of_getElem? (get i x hi))
     ·have := hur (l + i) j x c (get i x hx) hc;rw [Addr.add_add]
      rwa [show l * k' + (i * k' + j) = (l + i) * k' + j by rw [Nat.add_mul]; omega]
  | lst0 =>
    simp at hn;subst hn;have hh0 : h = 0 := by omega
    have hl0 : l = 0 := by omega
    subst hh0; subst hl0;exact fin hax (Nat.le_refl _) (Nat.le_refl _) (Nat.le_refl _) (fun _ _ => by simp; exact .lst0 _ _) rfl
 ·rename_i k' b off len;simp only at hs;split at hs
  case isFalse => cases hs
  rename_i hkk;subst hkk;simp at hs;obtain ⟨rfl,rfl,rfl⟩ := hs;subst hn;generalize hax : a.eval x = ax at r;cases r with
  | sl _ _ _ _ _ ad cap hb hc hp =>
    refine fin hax hc hlh hhn (fun _ _ => ?_) rfl;have e : (if cap = l then (some ad : Option Addr) else Option.map (·.add (l * k')) (some ad)) = some (if cap = l then ad else ad.add (l * k')) := by split <;> simp
    rw [e];refine .sl _ _ _ _ _ _ _ hb (by omega) fun g sz hg => ?_;obtain ⟨h1,h2⟩ := hp g sz hg;have hmul : l * k' + (cap - l) * k' = cap * k' := by rw [<- Nat.add_mul]; congr 1; omega
    refine ⟨fun h0 => ?_,by omega⟩;rw [if_neg (by omega),h1 (by omega),Addr.add_none]

theorem Plc.drop {cs : List AV} {ad : Addr} (h : Plc X φ w cs ad) (n : Nat) : Plc X φ w (cs.drop n) (ad.add n) := by
 intro j x hx;rw [List.getElem?_drop] at hx;rw [Addr.add_add];exact h _ _ hx
theorem fptr_drop {cs : List AV} {v : Value} (h : Rep (Rd X φ w) φ (.fptr cs) v) (n : Nat) : ∃ ad,v = .pointer (some ad) /\ Rep (Rd X φ w) φ (.fptr (cs.drop n)) (.pointer (some (ad.add n))) := by
 cases h with
 | fptr _ _ ad u hu h =>
   refine ⟨ad,rfl,.fptr _ _ _ (fun j => u (n + j)) (fun j c hc => ?_) (fun j c hc => ?_)⟩
   ·rw [List.getElem?_drop] at hc;rw [Addr.add_add];exact hu _ _ hc
   ·rw [List.getElem?_drop] at hc;exact h _ _ hc
theorem ptr_add {b off : Nat} {v : Value} (h : Rep (Rd X φ w) φ (.ptr b off) v) (n : Nat) : ∃ ad,v = .pointer (some ad) /\ Rep (Rd X φ w) φ (.ptr b (off + n)) (.pointer (some (ad.add n))) := by
 cases h with
 | ptr _ _ _ ad hb h =>
   refine ⟨ad,rfl,.ptr _ _ _ _ hb fun g sz hg => ?_⟩;rw [h g sz hg,Addr.add_none]

theorem run_bndA (he : ERel X φ w env a.tmps) (hg : GlOK c X φ w) {hi : Option Operand} {hi' : Option E} {n h : Nat} (hhi : chkEo hi hi' = true) (hh : bndO c env n n hi' = some h) : (Instr.sliceBounds false n n none (hi.map a.eval) none).run P w = .ok (0,h,n) w /\ h <= n := by
 cases hi <;> cases hi' <;> simp only [chkEo] at hhi <;> try (cases hhi; done)
 all_goals simp only [bndO] at hh
 ·simp at hh;subst hh;exact ⟨by simp [Instr.sliceBounds],Nat.le_refl _⟩
 ·obtain ⟨h1,h2⟩ := run_bnd1 (P := P) (cd := .sliceAlen) he hg hhi (Nat.le_refl _) hh;exact ⟨by simp [Instr.sliceBounds,h1],h2⟩
theorem ok_asl {t : TypeId} {n : Nat} {x : Operand} {y : E} {hi : Option Operand} {hi' : Option E} {v : AV} {H' : Heap} {fl : Fp} {call : Nat -> List AV -> Heap -> Option (AV × Heap)} (hop : o.op = .slice t x none hi none) (hh : HRel X φ w H) (he : ERel X φ w env a.tmps) (hg : GlOK c X φ w) (hhi : chkEo hi hi' = true) (r : Rep (Rd X φ w) φ (ev c env y) (a.eval x))
  (hk : (match P.underlying t with
  | some (.array n' e) => decide (n = n') && sizeIs P e 1
  | _ => false) = true) (hs : aOp c call env H (.asl n y hi') = some (v,H',fl)) : Ok P X φ w o a v H' := by
 split at hk
 case h_2 => cases hk
 rename_i n' e hu;simp only [Bool.and_eq_true,decide_eq_true_eq] at hk;obtain ⟨rfl,hsz⟩ := hk;unfold sizeIs at hsz;split at hsz
 case h_2 => cases hsz
 rename_i i hinf;simp only [aOp] at hs;split at hs
 case h_2 => cases hs
 rename_i m hm;obtain ⟨bd,hmn⟩ := run_bndA (P := P) he hg hhi hm;split at hs
 case h_3 => cases hs
 case h_2 =>
  rename_i b off hy;split at hs
  case h_2 => cases hs
  rename_i cs hb;split at hs
  case isFalse => cases hs
  rename_i hc;simp at hs;obtain ⟨rfl,rfl,rfl⟩ := hs;rw [hy] at r;generalize hax : a.eval x = ax at r;cases r with
  | ptr _ _ _ ad hbl hp =>
    have e0 : (if n = 0 then ad else ad.add (0 * i.size)) = ad := by
     split
     ·rfl
     ·simp [Addr.add]
    have run : (execOp a.eval o).run P w = .ok (.value (.slice (some ad) m n)) w := by
     simp only [execOp,hop,hax,Option.map_none,Instr.sliceAt,Instr.sureAddr,Sem.run_bind,run_underlying hu,Result.andThen_ok,bd,run_size hinf,Sem.run_pure,e0,Nat.sub_zero]
    refine Ok.quiet run ?_ hh;obtain ⟨g,sz,arr,e,h1,h2,h3,h4,_⟩ := hh.at hb;refine .sl _ _ _ _ _ _ _ hbl hmn fun g' sz' hg => ?_;rw [h1] at hg;simp only [Option.some.injEq,Prod.mk.injEq] at hg;obtain ⟨rfl,rfl⟩ := hg;exact ⟨fun _ => hp _ _ h1,by omega⟩
 rename_i cs hy;split at hs
 case isFalse => cases hs
 rename_i hc;obtain ⟨hc1,rfl,hc2⟩ := hc;have hc : m <= cs.length /\ allLeaf (cs.take m) = true := ⟨hc1,hc2⟩;simp at hs;obtain ⟨rfl,rfl,rfl⟩ := hs;rw [hy] at r;generalize hax : a.eval x = ax at r;cases r with
 | fptr _ _ ad u hu' hr =>
   have e0 : (if m = 0 then ad else ad.add (0 * i.size)) = ad := by
    split
    ·rfl
    ·simp [Addr.add]
   have run : (execOp a.eval o).run P w = .ok (.value (.slice (some ad) m m)) w := by
    simp only [execOp,hop,hax,Option.map_none,Instr.sliceAt,Instr.sureAddr,Sem.run_bind,run_underlying hu,Result.andThen_ok,bd,run_size hinf,Sem.run_pure,e0,Nat.sub_zero]
   refine Ok.quiet run ?_ hh
   have get : ∀ {k : Nat} {c : AV},(cs.take m)[k]? = some c -> cs[k]? = some c /\ c.leaf = true := by
    intro k c h;refine ⟨?_,allLeaf_mem hc.2 k c h⟩;rw [List.getElem?_take] at h;split at h
    ·exact h
    ·cases h
   have one : ∀ {c : AV},c.leaf = true -> c.cells = [c] := by
    intro c h;cases c <;> simp [AV.leaf] at h <;> rfl
   refine .lst _ 1 _ ad m m (fun k _ => u k) (by simp; omega) (Nat.le_refl _) (fun c hm => ?_) (fun k j c d h1 h2 => ?_) (fun k j c d h1 h2 => ?_)
   ·obtain ⟨k,hk⟩ := List.getElem?_of_mem hm;rw [one (get hk).2]; rfl
   ·rw [one (get h1).2] at h2;cases j with
    | zero => simp at h2; subst h2; simpa using hu' k c (get h1).1
    | succ j => simp at h2
   ·rw [one (get h1).2] at h2;cases j with
    | zero => simp at h2; subst h2; exact hr k c (get h1).1
    | succ j => simp at h2
theorem ok_fad {s : TypeId} {f off : Nat} {x : Operand} {y : E} {v : AV} {H' : Heap} {fl : Fp} {call : Nat -> List AV -> Heap -> Option (AV × Heap)} (hop : o.op = .fieldAddr s x f) (hh : HRel X φ w H) (r : Rep (Rd X φ w) φ (ev c env y) (a.eval x))
  (hk : (match P.underlying s with
  | some (.struct fs) => match fs[f]? with
    | some fd => decide (fd.offset = off) && (match P.info? fd.type with
      | some i => decide (i.size ≠ 0)
      | none => false)
    | none => false
  | _ => false) = true) (hs : aOp c call env H (.fad off y) = some (v,H',fl)) : Ok P X φ w o a v H' := by
 split at hk
 case h_2 => cases hk
 rename_i fs hu;split at hk
 case h_2 => cases hk
 rename_i fd hf;simp only [Bool.and_eq_true,decide_eq_true_eq] at hk;obtain ⟨hoff,hsz⟩ := hk;split at hsz
 case h_2 => cases hsz
 rename_i i hi;have hsz' : ¬ i.size = 0 := by simpa using hsz
 have run : ∀ {ad : Addr},a.eval x = .pointer (some ad) -> (execOp a.eval o).run P w = .ok (.value (.pointer (some (ad.add off)))) w := by
  intro ad hx;simp only [execOp,hop,hx,Instr.fieldAt,Sem.run_bind,run_underlying hu,Result.andThen_ok,hf,Instr.sureAddr,Sem.run_pure,fieldPlace,run_size hi,hsz',if_false,hoff]
 simp only [aOp] at hs;split at hs
 ·rename_i b off' hy;simp at hs;obtain ⟨rfl,rfl,rfl⟩ := hs;rw [hy] at r;obtain ⟨ad,h1,h2⟩ := ptr_add r off;exact Ok.quiet (run h1) h2 hh
 ·rename_i cs hy;simp at hs;obtain ⟨rfl,rfl,rfl⟩ := hs;rw [hy] at r;obtain ⟨ad,h1,h2⟩ := fptr_drop r off;exact Ok.quiet (run h1) h2 hh
 ·cases hs
theorem ok_fld {s : TypeId} {f off : Nat} {ag : Option Nat} {x : Operand} {y : E} {v : AV} {H' : Heap} {fl : Fp} {call : Nat -> List AV -> Heap -> Option (AV × Heap)} (hop : o.op = .field s x f) (hh : HRel X φ w H) (r : Rep (Rd X φ w) φ (ev c env y) (a.eval x))
  (hk : (match P.underlying s with
  | some (.struct fs) => match fs[f]? with
    | some fd => decide (fd.offset = off) && decide (aggOf P fd.type = some ag)
    | none => false
  | _ => false) = true) (hs : aOp c call env H (.fld off ag y) = some (v,H',fl)) : Ok P X φ w o a v H' := by
 split at hk
 case h_2 => cases hk
 rename_i fs hu;split at hk
 case h_2 => cases hk
 rename_i fd hf;simp only [Bool.and_eq_true,decide_eq_true_eq] at hk;obtain ⟨hoff,hag⟩ := hk;simp only [aOp] at hs;split at hs
 case h_2 => cases hs
 rename_i cs hy;split at hs
 case h_2 => cases hs
 rename_i u hu';simp at hs;obtain ⟨rfl,rfl,rfl⟩ := hs;rw [hy] at r;generalize hx : a.eval x = ax at r;cases r with
 | agg _ _ vs hl hr =>
   obtain ⟨v',h1,h2⟩ := part_ok hag hl hr hu';refine Ok.quiet ?_ h2 hh;simp only [execOp,hop,hx,Instr.field,Sem.run_bind,run_underlying hu,Result.andThen_ok,hf,asAgg,Sem.run_pure,hoff,h1]
theorem run_ixa {t e : TypeId} {i : TypeInfo} (hu : P.underlying t = some (.slice e)) (hi : P.info? e = some i) {ad : Addr} {n cap : Nat} {k : IntKind} {j : Int} (h0 : 0 <= j) (h1 : j < (n : Int)) :
  (Instr.indexAt t (.slice (some ad) n cap) (.int k j)).run P w = .ok (.pointer (some (ad.add (j.toNat * i.size)))) w := by
 simp [Instr.indexAt,asIntOf,run_underlying hu,h0,h1,run_size hi]
theorem run_ixp {t e : TypeId} {i : TypeInfo} {n : Nat} (hu : P.underlying t = some (.array n e)) (hi : P.info? e = some i) {ad : Addr} {k : IntKind} {j : Int} (h0 : 0 <= j) (h1 : j < (n : Int)) :
  (Instr.indexAt t (.pointer (some ad)) (.int k j)).run P w = .ok (.pointer (some (ad.add (j.toNat * i.size)))) w := by
 simp [Instr.indexAt,asIntOf,Instr.sureAddr,run_underlying hu,h0,h1,run_size hi]
theorem ok_ixa {t : TypeId} {k : Nat} {x xi : Operand} {y yi : E} {v : AV} {H' : Heap} {fl : Fp} {call : Nat -> List AV -> Heap -> Option (AV × Heap)} (hop : o.op = .indexAddr t x xi) (hh : HRel X φ w H) (r : Rep (Rd X φ w) φ (ev c env y) (a.eval x))
  (ri : Rep (Rd X φ w) φ (ev c env yi) (a.eval xi)) (hk : elemIs P t k = true) (hs : aOp c call env H (.ixa k y yi) = some (v,H',fl)) : Ok P X φ w o a v H' := by
 obtain ⟨e,i,z,hu,hinf,hik,hk0,hby,hiz,hzk⟩ := elemIs_spec hk;simp only [aOp] at hs;split at hs
 ·rename_i k' xs hy;split at hs
  case h_2 => cases hs
  rename_i j hj;obtain ⟨kk,ii,e1,e2,e3,e4,e5⟩ := idx_spec hj;split at hs
  case isFalse => cases hs
  rename_i hkk;subst hkk;split at hs
  case h_2 => cases hs
  rename_i el hel;simp at hs;obtain ⟨rfl,rfl,rfl⟩ := hs;rw [e1] at ri;have hxi := rep_int ri;rw [hy] at r;generalize hx : a.eval x = ax at r;cases r with
  | lst _ _ _ ad n cap u hn hcap hkc hur hr =>
    have hrun := run_ixa (P := P) (w := w) hu hinf (ad := ad) (n := n) (cap := cap) (k := kk) e2 (by omega);refine Ok.quiet (v' := .pointer (some (ad.add (ii.toNat * i.size)))) (by simp only [execOp,hop,hx,hxi,Sem.run_bind,hrun,Result.andThen_ok,Sem.run_pure]) (.fptr _ _ _ (fun m => u j m) (fun m c hc => ?_) (fun m c hc => hr j m el c hel hc)) hh;rw [Addr.add_add,hik,<- e4];exact hur j m el c hel hc
  | lst0 => simp at hel
 ·rename_i k' b off len hy;split at hs
  case h_2 => cases hs
  rename_i j hj;obtain ⟨kk,ii,e1,e2,e3,e4,e5⟩ := idx_spec hj;split at hs
  case isFalse => cases hs
  rename_i hkk;subst hkk;simp at hs;obtain ⟨rfl,rfl,rfl⟩ := hs;rw [e1] at ri;have hxi := rep_int ri;rw [hy] at r;generalize hx : a.eval x = ax at r;cases r with
  | sl _ _ _ _ _ ad cap hb hc hp =>
    have hrun := run_ixa (P := P) (w := w) hu hinf (ad := ad) (n := len) (cap := cap) (k := kk) e2 (by omega);refine Ok.quiet (v' := .pointer (some (ad.add (ii.toNat * i.size)))) (by simp only [execOp,hop,hx,hxi,Sem.run_bind,hrun,Result.andThen_ok,Sem.run_pure]) (.ptr _ _ _ _ hb fun g sz hg => ?_) hh;rw [(hp g sz hg).1 (by omega),Addr.add_none,hik,e4]
 ·cases hs
theorem ok_ixp {t : TypeId} {n k : Nat} {x xi : Operand} {y yi : E} {v : AV} {H' : Heap} {fl : Fp} {call : Nat -> List AV -> Heap -> Option (AV × Heap)} (hop : o.op = .indexAddr t x xi) (hh : HRel X φ w H) (r : Rep (Rd X φ w) φ (ev c env y) (a.eval x))
  (ri : Rep (Rd X φ w) φ (ev c env yi) (a.eval xi)) (hk : (match P.underlying t with
  | some (.array n' e) => decide (n = n') && sizeIs P e k
  | _ => false) = true) (hs : aOp c call env H (.ixp n k y yi) = some (v,H',fl)) : Ok P X φ w o a v H' := by
 split at hk
 case h_2 => cases hk
 rename_i n' e hu;simp only [Bool.and_eq_true,decide_eq_true_eq] at hk;obtain ⟨rfl,hsz⟩ := hk;unfold sizeIs at hsz;split at hsz
 case h_2 => cases hsz
 rename_i i hi;have hik : i.size = k := by simpa using hsz
 simp only [aOp] at hs;split at hs
 case h_2 => cases hs
 rename_i j hj;obtain ⟨kk,ii,e1,e2,e3,e4,e5⟩ := idx_spec hj;rw [e1] at ri;have hxi := rep_int ri
 have run : ∀ {ad : Addr},a.eval x = .pointer (some ad) -> (execOp a.eval o).run P w = .ok (.value (.pointer (some (ad.add (j * k))))) w := by
  intro ad hx;have hrun := run_ixp (P := P) (w := w) hu hi (ad := ad) (k := kk) e2 e3;simp only [execOp,hop,hx,hxi,Sem.run_bind,hrun,Result.andThen_ok,Sem.run_pure,hik,e4]
 split at hs
 ·rename_i b off hy;simp at hs;obtain ⟨rfl,rfl,rfl⟩ := hs;rw [hy] at r;obtain ⟨ad,h1,h2⟩ := ptr_add r (j * k);exact Ok.quiet (run h1) h2 hh
 ·rename_i cs hy;simp at hs;obtain ⟨rfl,rfl,rfl⟩ := hs;rw [hy] at r;obtain ⟨ad,h1,h2⟩ := fptr_drop r (j * k);exact Ok.quiet (run h1) h2 hh
 ·cases hs
theorem ok_ix {t : TypeId} {n k : Nat} {ag : Option Nat} {x xi : Operand} {y yi : E} {v : AV} {H' : Heap} {fl : Fp} {call : Nat -> List AV -> Heap -> Option (AV × Heap)} (hop : o.op = .index t x xi) (hh : HRel X φ w H) (r : Rep (Rd X φ w) φ (ev c env y) (a.eval x))
  (ri : Rep (Rd X φ w) φ (ev c env yi) (a.eval xi)) (hk : (match P.underlying t with
  | some (.array n' e) => decide (n = n') && sizeIs P e k && decide (aggOf P e = some ag)
  | _ => false) = true) (hs : aOp c call env H (.ix n k ag y yi) = some (v,H',fl)) : Ok P X φ w o a v H' := by
 split at hk
 case h_2 => cases hk
 rename_i n' e hu;simp only [Bool.and_eq_true,decide_eq_true_eq] at hk;obtain ⟨⟨rfl,hsz⟩,hag⟩ := hk;unfold sizeIs at hsz;split at hsz
 case h_2 => cases hsz
 rename_i i hi;have hik : i.size = k := by simpa using hsz
 simp only [aOp] at hs;split at hs
 case h_2 => cases hs
 rename_i j hj;obtain ⟨kk,ii,e1,e2,e3,e4,e5⟩ := idx_spec hj;rw [e1] at ri;have hxi := rep_int ri;split at hs
 case h_2 => cases hs
 rename_i cs hy;split at hs
 case h_2 => cases hs
 rename_i u hu';simp at hs;obtain ⟨rfl,rfl,rfl⟩ := hs;rw [hy] at r;generalize hx : a.eval x = ax at r;cases r with
 | agg _ _ vs hl hr =>
   obtain ⟨v',h1,h2⟩ := part_ok hag hl hr hu';refine Ok.quiet ?_ h2 hh;rw [e4] at h1;simp only [execOp,hop,hx,hxi,Instr.index,asIntOf,Sem.run_bind,Sem.run_pure,run_underlying hu,Result.andThen_ok,e2,e3,and_self,if_true,run_size hi,hik,h1]
theorem ok_ext {x : Operand} {i : Nat} {vs : List AV} {v : AV} (hop : o.op = .extract x i) (hh : HRel X φ w H) (r : Rep (Rd X φ w) φ (.tup vs) (a.eval x)) (hv : vs[i]? = some v) : Ok P X φ w o a v H := by
 generalize hx : a.eval x = ax at r;cases r with
 | tup _ _ us hl hr =>
   obtain ⟨u,hu⟩ := agetElem?_some_of (l := us) (i := i) (by have := lt_of_getElem? hv; omega);exact Ok.quiet (by simp only [execOp,hop,hx,Instr.extract,hu,Sem.run_bind,Sem.run_pure,Result.andThen_ok]) (hr i v u hv hu) hh
theorem ok_nilck {x : Operand} {y : E} {v : AV} {H' : Heap} {fl : Fp} {call : Nat -> List AV -> Heap -> Option (AV × Heap)} (hop : o.op = .nilCheck x) (hh : HRel X φ w H) (r : Rep (Rd X φ w) φ (ev c env y) (a.eval x))
  (hs : aOp c call env H (.nilck y) = some (v,H',fl)) : Ok P X φ w o a v H' := by
 simp only [aOp] at hs;split at hs
 ·rename_i b off hy;simp at hs;obtain ⟨rfl,rfl,rfl⟩ := hs;rw [hy] at r;generalize hx : a.eval x = ax at r;have r' := r;cases r;exact Ok.quiet (by simp only [execOp,hop,hx,Sem.run_pure]) r' hh
 ·rename_i cs hy;simp at hs;obtain ⟨rfl,rfl,rfl⟩ := hs;rw [hy] at r;generalize hx : a.eval x = ax at r;have r' := r;cases r;exact Ok.quiet (by simp only [execOp,hop,hx,Sem.run_pure]) r' hh
 ·rename_i f as bs hy;simp at hs;obtain ⟨rfl,rfl,rfl⟩ := hs;rw [hy] at r;generalize hx : a.eval x = ax at r;have r' := r;cases r;exact Ok.quiet (by simp only [execOp,hop,hx,Sem.run_pure]) r' hh
 ·cases hs
theorem ok_len {ca : Call} {x : Operand} {t : TypeId} {y : E} {v : AV} {H' : Heap} {fl : Fp} {call : Nat -> List AV -> Heap -> Option (AV × Heap)} (hop : o.op = .call ca) (hca : ca.callee = .builtin .len) (hargs : ca.args = #[x]) (hty : ca.argTypes = #[t]) (hh : HRel X φ w H)
  (r : Rep (Rd X φ w) φ (ev c env y) (a.eval x)) (hsl : isSlice P t = true) (hs : aOp c call env H (.len y) = some (v,H',fl)) : Ok P X φ w o a v H' := by
 unfold isSlice at hsl;split at hsl
 case h_2 => cases hsl
 rename_i e hu
 have run : ∀ {ad : Option Addr} {n cap : Nat},a.eval x = .slice ad n cap -> (execOp a.eval o).run P w = .ok (.value (.int .i64 n)) w := by
  intro ad n cap hx;simp [execOp,hop,resolve,hca,hargs,hty,invoke,builtin,hx,Builtin.len_,run_underlying hu,goInt]
 simp only [aOp] at hs;split at hs
 case h_2 => cases hs
 rename_i n hn;simp at hs;obtain ⟨rfl,rfl,rfl⟩ := hs;generalize hy : ev c env y = yv at r hn;generalize hx : a.eval x = ax at r;cases yv <;> simp only [lenA,Option.some.injEq] at hn <;> try (cases hn; done)
 ·subst hn;cases r;exact Ok.quiet (run hx) (.int _ _ _) hh
 ·cases r with
  | lst _ _ _ ad m cap u hm =>
    subst hm; subst hn;exact Ok.quiet (run hx) (.int _ _ _) hh
  | lst0 => simp at hn; subst hn; exact Ok.quiet (run hx) (.int _ _ _) hh
 ·subst hn;cases r;exact Ok.quiet (run hx) (.int _ _ _) hh
theorem run_minF (mx : Bool) : ∀ (xs : List AV) (vs : List Value) (k : IntKind) (n : Int) (r : AV),minF mx (.int k n) xs = some r -> xs.length = vs.length -> (∀ (i : Nat) (c : AV) (v : Value),xs[i]? = some c -> vs[i]? = some v -> Rep (Rd X φ w) φ c v) ->
  ∃ v,(vs.foldlM (if mx then Builtin.max2 else Builtin.min2) (.int k n)).run P w = .ok v w /\ ∀ R ψ,Rep R ψ r v
 | [],[],k,n,r,h,_,_ => by simp [minF] at h; subst h; exact ⟨_,rfl,fun _ _ => .int _ _ _⟩
 | [],_ :: _,_,_,_,_,hl,_ => by simp at hl
 | _ :: _,[],_,_,_,_,hl,_ => by simp at hl
 | x :: xs,v :: vs,k,n,r,h,hl,hr => by
   cases x <;> simp only [minF] at h <;> try (cases h; done)
   rename_i k' m;obtain rfl := rep_int (hr 0 _ v rfl rfl);obtain ⟨v',h1,h2⟩ := run_minF mx xs vs k _ r h (by simpa using hl) (fun i c u hc hu => hr (i + 1) c u (by simpa using hc) (by simpa using hu));refine ⟨v',?_,h2⟩;cases mx
   ·simp only [Bool.false_eq_true,if_false] at h1 ⊢;simp only [List.foldlM_cons,Builtin.min2,Sem.run_bind,Sem.run_pure,Result.andThen_ok];exact h1
   ·simp only [if_true] at h1 ⊢;simp only [List.foldlM_cons,Builtin.max2,Sem.run_bind,Sem.run_pure,Result.andThen_ok];exact h1
theorem ok_min {mx : Bool} {ca : Call} {ys : List E} {v : AV} (hop : o.op = .call ca) (hca : ca.callee = .builtin (if mx then .max else .min)) (hh : HRel X φ w H) (he : ERel X φ w env a.tmps) (hg : GlOK c X φ w)
  (hargs : chkEs ca.args.toList ys = true) (hm : minA mx (evs c env ys) = some v) : Ok P X φ w o a v H := by
 obtain ⟨hl,hr⟩ := evals_rep he hg hargs;generalize hxs : evs c env ys = xs at hm hl hr;have hvs : (ca.args.map a.eval).toList = ca.args.toList.map a.eval := by simp
 cases xs with
 | nil => simp [minA] at hm
 | cons x xs =>
   cases x <;> simp only [minA] at hm <;> try (cases hm; done)
   rename_i k n;cases hav : ca.args.toList.map a.eval with
   | nil => have := congrArg List.length hav; simp at this hl; rw [this] at hl; simp at hl
   | cons u us =>
     rw [hav] at hr;obtain rfl := rep_int (hr 0 _ u rfl rfl);obtain ⟨v',h1,h2⟩ := run_minF (P := P) mx xs us k n v hm (by have := congrArg List.length hav; simp at this hl; omega) (fun i c w' hc hw => hr (i + 1) c w' (by simpa using hc) (by simpa using hw));refine Ok.quiet (v' := v') ?_ (h2 _ _) hh;cases mx
     ·simp only [Bool.false_eq_true,if_false] at h1 hca;simp only [execOp,hop,resolve,hca,invoke,builtin,Builtin.min_,hvs,hav,Sem.run_bind,Sem.run_pure,Result.andThen_ok,h1]
     ·simp only [if_true] at h1 hca;simp only [execOp,hop,resolve,hca,invoke,builtin,Builtin.max_,hvs,hav,Sem.run_bind,Sem.run_pure,Result.andThen_ok,h1]
theorem ok_ixs {t : TypeId} {s : ByteArray} {tab : List Nat} {xi : Operand} {yi : E} {v : AV} {H' : Heap} {fl : Fp} {call : Nat -> List AV -> Heap -> Option (AV × Heap)} (hop : o.op = .index t (.const (.string s)) xi) (hh : HRel X φ w H)
  (ri : Rep (Rd X φ w) φ (ev c env yi) (a.eval xi)) (hu : (match P.underlying t with
  | some .string => true
  | _ => false) = true) (htab : s.data.toList.map (·.toNat) = tab) (hs : aOp c call env H (.ixs tab yi) = some (v,H',fl)) : Ok P X φ w o a v H' := by
 split at hu
 case h_2 => cases hu
 rename_i hu0;clear hu;simp only [aOp] at hs;split at hs
 case h_2 => cases hs
 rename_i j hj;obtain ⟨kk,ii,e1,e2,e3,e4,e5⟩ := idx_spec hj;rw [e1] at ri;have hxi := rep_int ri;split at hs
 case h_2 => cases hs
 rename_i u hu';simp at hs;obtain ⟨rfl,rfl,rfl⟩ := hs;subst htab
 have hlt : j < s.size := by
  have h1 : s.data.size = s.size := rfl;have h2 := e5;simp at h2;omega
 have hsj : s[j]? = some s[j] := getElem?_pos s j hlt
 have hu2 : s[j].toNat = u := by
  rw [List.getElem?_map] at hu'
  have : s.data.toList[j]? = some s[j] := by
   rw [Array.getElem?_toList];exact Array.getElem?_eq_getElem hlt
  rw [this] at hu';simpa using hu'
 refine Ok.quiet (v' := .int .u8 u) ?_ (.int _ _ _) hh;subst e4;have hcs : a.eval (.const (.string s)) = .string s := rfl;simp only [execOp,hop,hcs,hxi,Instr.index,asIntOf,Sem.run_bind,Sem.run_pure,run_underlying hu0,Result.andThen_ok,e2,if_true,hsj,hu2]
theorem ok_clr {ca : Call} {x : Operand} {t : TypeId} {k : Nat} {zs : List AV} {y : E} {v : AV} {H' : Heap} {fl : Fp} {call : Nat -> List AV -> Heap -> Option (AV × Heap)} (hop : o.op = .call ca) (hca : ca.callee = .builtin .clear) (hargs : ca.args = #[x]) (hty : ca.argTypes = #[t]) (hh : HRel X φ w H)
  (r : Rep (Rd X φ w) φ (ev c env y) (a.eval x)) (hk : elemIs P t k = true) (hz : elemZero P t zs = true) (hs : aOp c call env H (.clr k zs y) = some (v,H',fl)) : Ok P X φ w o a v H' := by
 obtain ⟨e,i,z,hu,hi,hik,hk0,hby,hiz,hzk⟩ := elemIs_spec hk;simp only [elemZero,hu] at hz;obtain ⟨i',z',hi',hz',hcs,hlf⟩ := zeroIs_cs (X := X) (φ := φ) (w := w) hz;rw [hi] at hi';simp at hi';subst hi';rw [hiz] at hz';simp at hz';subst hz';have hzl : zs.length = k := by have := hcs.1; simp at this; omega
 have run0 : ∀ {ad : Option Addr} {cap : Nat},a.eval x = .slice ad 0 cap -> (execOp a.eval o).run P w = .ok (.value (.tuple #[])) w := by
  intro ad cap hx;cases ad <;> simp [execOp,hop,resolve,hca,hargs,hty,invoke,builtin,hx,Builtin.clear_,run_underlying hu]
 simp only [aOp] at hs;split at hs
 ·rename_i hy;simp at hs;obtain ⟨rfl,rfl,rfl⟩ := hs;rw [hy] at r;generalize hx : a.eval x = ax at r;cases r;exact Ok.quiet (run0 hx) (.undef _) hh
 ·rename_i k' hy;simp at hs;obtain ⟨rfl,rfl,rfl⟩ := hs;rw [hy] at r;generalize hx : a.eval x = ax at r;cases r with
  | lst _ _ _ ad n cap u hn => simp at hn; subst hn; exact Ok.quiet (run0 hx) (.undef _) hh
  | lst0 => exact Ok.quiet (run0 hx) (.undef _) hh
 ·rename_i k' b off len hy;rw [hy] at r;split at hs
  ·rename_i h0;subst h0;simp at hs;obtain ⟨rfl,rfl,rfl⟩ := hs;generalize hx : a.eval x = ax at r;cases r;exact Ok.quiet (run0 hx) (.undef _) hh
  ·rename_i h0;split at hs
   case h_2 => cases hs
   rename_i cs hb;split at hs
   case isFalse => cases hs
   rename_i hc;obtain ⟨rfl,hfit⟩ := hc;simp at hs;obtain ⟨rfl,rfl,rfl⟩ := hs;generalize hx : a.eval x = ax at r;cases r with
   | sl _ _ _ _ _ ad cap hbl hcap hp =>
     obtain ⟨g,sz,arr,e2,h1,h2,h3,h4,h5,h6⟩ := hh.at hb;obtain rfl := (hp g sz h1).1 (by omega)
     have rp : Rep (Rd X φ w) φ (.ptr b off) (.pointer (some ⟨g,off,none⟩)) := .ptr _ _ _ _ hbl fun g' sz' hg' => by
      rw [h1] at hg';simp at hg';rw [hg'.1]
     have hcz : Cs X φ w (rep zs len) (Builtin.zeroCells z.cells len).toList := by
      refine ⟨by rw [rep_length,hzl]; simp [Builtin.zeroCells,hzk],fun j c v hc hv => ?_⟩;obtain ⟨u,q1,q2⟩ := rep_cs hcs (n := len) (m := len * k') (by rw [hzk]; omega) (arr := Builtin.zeroCells z.cells len) (by simp [Builtin.zeroCells,hzk]) (fun i hi => by simp [Builtin.zeroCells,hzk,hi]) j c hc;rw [Array.getElem?_toList,q1] at hv;simp at hv;subst hv;exact q2
     obtain ⟨g',w',e1,hst,q1,q2⟩ := write_ok (P := P) hh hb rp hcz (hcz.oneCell (rep_leaf hlf len)) (by rw [rep_length,hzl]; exact hfit);simp at e1;subst e1;refine Ok.value (v' := .tuple #[]) ?_ (.undef _) q1 q2;cases len with
     | zero => exact absurd rfl h0
     | succ m => simp [execOp,hop,resolve,hca,hargs,hty,invoke,builtin,hx,Builtin.clear_,run_underlying hu,run_zero hi hiz,hst]
 ·cases hs
end
end Go.Am

/- append; calls. -/
namespace Go.Am
section
variable {P : Program} {c : Cfg} {X : Nat -> Prop} {φ : Phi} {w : World} {env : Env} {H : Heap} {a : Act} {o : Oper}

theorem flatCells_get {k : Nat} : ∀ {xs : List AV},(∀ x ∈ xs,x.cells.length = k) -> (flatCells xs).length = xs.length * k /\
  ∀ (p : Nat) (c : AV),(flatCells xs)[p]? = some c -> ∃ i x j,xs[i]? = some x /\ x.cells[j]? = some c /\ p = i * k + j
 | [],_ => ⟨by simp [flatCells],fun p c h => by simp [flatCells] at h⟩
 | x :: r,h => by
   obtain ⟨hl,hm⟩ := flatCells_get (xs := r) fun y hy => h y (by simp [hy]);have hx := h x (by simp);refine ⟨by simp [flatCells,hl,hx,Nat.add_mul]; omega,fun p c hc => ?_⟩;rw [flatCells] at hc;by_cases hp : p < x.cells.length
   ·rw [List.getElem?_append_left hp] at hc;exact ⟨0,x,p,rfl,hc,by omega⟩
   ·rw [List.getElem?_append_right (by omega)] at hc;obtain ⟨i,y,j,h1,h2,h3⟩ := hm _ c hc;exact ⟨i + 1,y,j,by simpa using h1,h2,by rw [Nat.add_mul]; omega⟩
theorem sliceCells_ok (hh : HRel X φ w H) {k m : Nat} {x : AV} {news : List AV} {v : Value} (h : sliceCells H k x = some (news,m)) (r : Rep (Rd X φ w) φ x v) :
  ∃ ao cap vs,v = .slice ao m cap /\ vs.length = m * k /\ Cs X φ w news vs /\ (∀ ad,ao = some ad -> ∀ (j : Nat) (u : Value),vs[j]? = some u -> w.cell? (ad.add j) = some u) /\ (ao = none -> m = 0) := by
 have fin : ∀ {ad : Addr} {cap : Nat} {cs : List AV},Plc X φ w cs ad -> cs.length = m * k -> cs = news -> v = .slice (some ad) m cap ->
   ∃ ao cap vs,v = .slice ao m cap /\ vs.length = m * k /\ Cs X φ w news vs /\ (∀ ad,ao = some ad -> ∀ (j : Nat) (u : Value),vs[j]? = some u -> w.cell? (ad.add j) = some u) /\ (ao = none -> m = 0) := by
  intro ad cap cs hp hl hn hv;obtain ⟨vs,h1,h2,h3⟩ := hp.values cs.length (Nat.le_refl _);subst hn;refine ⟨some ad,cap,vs,hv,by omega,⟨h1.symm,fun i c u hc hu => h3 i c u (by simpa using hc) hu⟩,fun ad' h => ?_,fun h => by cases h⟩;cases h;exact h2
 cases x <;> simp only [sliceCells] at h <;> try (cases h; done)
 ·simp at h;obtain ⟨rfl,rfl⟩ := h;cases r;exact ⟨none,0,[],rfl,by simp,⟨rfl,fun i c u hc => by simp at hc⟩,(fun ad h => by cases h),fun _ => rfl⟩
 ·rename_i k' xs;split at h
  ·rename_i hk;subst hk;simp at h;obtain ⟨rfl,rfl⟩ := h;cases r with
   | lst _ _ _ ad n cap u hn hcap hkc hur hr =>
     obtain ⟨hl,hm⟩ := flatCells_get hkc;subst hn;refine fin (ad := ad) (cap := cap) (fun p c hc => ?_) hl rfl rfl;obtain ⟨i,y,j,h1,h2,rfl⟩ := hm p c hc;exact ⟨u i j,(hur i j y c h1 h2).2.2,(hr i j y c h1 h2).mono0 φ⟩
   | lst0 => exact ⟨none,0,[],rfl,by simp,⟨rfl,fun i c u hc => by simp [flatCells] at hc⟩,(fun ad h => by cases h),fun _ => rfl⟩
  ·cases h
 ·rename_i k' b off len;split at h
  case h_2 => cases h
  rename_i cs hcs;split at h
  case isFalse => cases h
  rename_i hc;obtain ⟨rfl,hfit⟩ := hc;simp at h;obtain ⟨rfl,rfl⟩ := h;cases r with
  | sl _ _ _ _ _ ad cap hb hc hp =>
    obtain ⟨g,sz,arr,e,h1,h2,h3,h4,h5,h6⟩ := hh.at hcs;by_cases h0 : len = 0
    ·subst h0;exact ⟨some ad,cap,[],rfl,by simp,⟨by simp,fun i c u hc => by simp at hc⟩,(fun _ _ j u hu => by simp at hu),(fun h => by cases h)⟩
    ·obtain rfl := (hp g sz h1).1 (by omega);refine fin (ad := ⟨g,off,none⟩) (cap := cap) (cs := (cs.drop off).take (len * k')) (fun p c hc => ?_) (by simp; omega) rfl rfl;rw [List.getElem?_take] at hc;split at hc
     ·rw [List.getElem?_drop] at hc;obtain ⟨u,hu,r⟩ := h6 _ _ hc;exact ⟨u,by rw [Addr.add_none,cell_of_heap h2]; exact hu,r⟩
     ·cases hc

theorem run_append_room' {t ty e e2 : TypeId} {i : TypeInfo} (ht : P.underlying t = some (.slice e)) (hi : P.info? e = some i)
  {g sLen sCap : Nat} {cur : Array Value} (hg : w.heap[g]? = some (.cells cur e2 (0,0)))
  {a : Addr} {m c : Nat} {news : List Value} (hl : news.length = m * i.size) (hnews : ∀ (j : Nat) (u : Value),news[j]? = some u -> w.cell? (a.add j) = some u) (h1 : ∀ u ∈ news,u.oneCell' = true)
  (hroom : sLen + m <= sCap) (hfit : sLen * i.size + news.length <= cur.size) :
  (Builtin.append_ #[t,t] ty #[.slice (some ⟨g,0,none⟩) sLen sCap,.slice (some a) m c]).run P w =
   .ok (.slice (some ⟨g,0,none⟩) (sLen + m) sCap) (w.setRow g (cur.toList.take (sLen * i.size) ++ news ++ cur.toList.drop (sLen * i.size + news.length)).toArray) := by
 have hf := run_firstCells_some (P := P) w i.size m a m c news hl hnews;have hst := run_storeCells_at P g (sLen * i.size) e2 news 0 cur w hg (by simpa using hfit) h1;simp only [Nat.add_zero] at hst;simp [Builtin.append_,run_underlying ht,sizeOf,typeInfo,hi,Builtin.lenOf,hroom,hf,Addr.add_lit,hst]
theorem run_append_zero {t ty e : TypeId} {i : TypeInfo} (hu : P.underlying t = some (.slice e)) (hi : P.info? e = some i) {base ao : Option Addr} {n cap c : Nat} (h : n <= cap) :
  (Builtin.append_ #[t,t] ty #[.slice base n cap,.slice ao 0 c]).run P w = .ok (.slice base n cap) w := by
 cases base <;> cases ao <;> simp [Builtin.append_,run_underlying hu,sizeOf,run_info hi,Builtin.lenOf,h,Builtin.firstCells,loadCells,loadCellsFrom,storeCells]
theorem ok_app {ca : Call} {x y : Operand} {t : TypeId} {k : Nat} {x' y' : E} {v : AV} {H' : Heap} {fl : Fp} {call : Nat -> List AV -> Heap -> Option (AV × Heap)} (hop : o.op = .call ca) (hca : ca.callee = .builtin .append) (hargs : ca.args = #[x,y]) (hty : ca.argTypes = #[t,t])
  (hh : HRel X φ w H) (rx : Rep (Rd X φ w) φ (ev c env x') (a.eval x)) (ry : Rep (Rd X φ w) φ (ev c env y') (a.eval y)) (hk : elemIs P t k = true) (hs : aOp c call env H (.app k x' y') = some (v,H',fl)) : Ok P X φ w o a v H' := by
 obtain ⟨e,i,z,hu,hi,hik,hk0,hby,hiz,hzk⟩ := elemIs_spec hk
 have fin : ∀ {p q v' : Value} {w' : World} {φ' : Phi},a.eval x = p -> a.eval y = q -> (Builtin.append_ #[t,t] o.type #[p,q]).run P w = .ok v' w' -> Rep (Rd X φ' w') φ' v v' -> HRel X φ' w' H' -> Adv φ w φ' w' -> Ok P X φ w o a v H' := by
  intro p q v' w' φ' hp hq hr r h k;refine Ok.value ?_ r h k;simp only [execOp,hop,resolve,hca,hargs,hty,invoke,builtin,List.map_toArray,List.map_cons,List.map_nil,hp,hq,Sem.run_bind,Sem.run_pure,Result.andThen_ok,hr]
 simp only [aOp] at hs;split at hs
 case h_2 => cases hs
 rename_i news m hsc;obtain ⟨ao,capy,vs,hy,hvl,hcsn,hvc,hnone⟩ := sliceCells_ok hh hsc ry;have hL : LIM = 4294967296 := rfl;split at hs
 ·rename_i hx';rw [hx'] at rx;generalize hx : a.eval x = ax at rx;cases rx;by_cases hm : m = 0
  ·subst hm;simp at hs;obtain ⟨rfl,rfl,rfl⟩ := hs;exact fin hx hy (run_append_zero hu hi (Nat.le_refl 0)) (.nils _) hh (.refl _ _)
  ·rw [if_neg hm] at hs;split at hs
   case isFalse => cases hs
   rename_i hc;obtain ⟨hlim,hlf⟩ := hc;simp at hs;obtain ⟨rfl,rfl,rfl⟩ := hs;cases ao with
   | none => exact absurd (hnone rfl) hm
   | some ad =>
     have hmb : m * i.bytes <= 4294967296 * 1024 := Nat.mul_le_mul (by omega) hby;have hr := run_append_nil (P := P) w t o.type e i z hu hi hiz ad m capy vs (by rw [hvl,hik]) (hvc ad rfl) (by omega) (by omega) (by omega);have hge := grownCap_ge w m 0 e
     have hsz : (vs.toArray ++ Builtin.zeroCells z.cells (grownCap w m 0 e - m)).size = grownCap w m 0 e * k := by
      simp only [Array.size_append,List.size_toArray,size_zeroCells,hzk,hvl,<- Nat.add_mul]; congr 1; omega
     obtain ⟨q1,q2⟩ := alloc_ok hh (w1 := w.drew) (arr := vs.toArray ++ Builtin.zeroCells z.cells (grownCap w m 0 e - m)) (e := e) (cs := news) rfl rfl rfl rfl
      (by rw [hsz,hcsn.1,hvl]; exact Nat.mul_le_mul_right _ hge)
      (hcsn.at fun j u hj => by rw [Array.getElem?_append_left (by simpa using lt_of_getElem? hj)]; simpa using hj)
     exact fin hx hy hr (new_sl hh.len hge (by rw [hsz]; exact Nat.le_refl _)) q1 q2
 ·rename_i k' b n hx';split at hs
  case h_2 => cases hs
  rename_i cs hcs;split at hs
  case isFalse => cases hs
  rename_i hc;obtain ⟨rfl,hnk,hlim,hlf⟩ := hc;simp at hs;obtain ⟨rfl,rfl,rfl⟩ := hs;rw [hx'] at rx;generalize hx : a.eval x = ax at rx;cases rx with
  | sl _ _ _ _ _ ad cap hb hcap hp =>
    obtain ⟨g,sz,arr,e2,hφ,hg,hsz,hle,hX,hm6⟩ := hh.at hcs;obtain ⟨haddr,hroom⟩ := hp g sz hφ
    have hold : Cs X φ w (cs.take (n * k')) (arr.toList.take (n * k')) := by
     refine ⟨by simp; omega,fun j x u hx hu => ?_⟩;have hj : j < n * k' := by have := lt_of_getElem? hx; simp at this; omega
     rw [List.getElem?_take_of_lt hj] at hx hu;obtain ⟨u',h1,h2⟩ := hm6 j x hx;simp at hu;rw [h1] at hu;simp at hu;subst hu;exact h2
    have hall := hold.append hcsn;have hl2 : (arr.toList.take (n * k')).length = n * k' := by simp; omega
    have hlen : (n : Nat) * k' + m * k' = (n + m) * k' := by rw [Nat.add_mul]
    by_cases hm : m = 0
    ·subst hm;have hvs : vs = [] := List.eq_nil_of_length_eq_zero (by omega);subst hvs
     obtain ⟨q1,q2⟩ := hh.move (cs' := cs.take (n * k') ++ news) (arr' := arr) (w' := w) hφ hg hsz rfl (by rw [setRow_self w g arr e2 _ hg]) hX
      (by rw [hall.1]; simp; omega) (hall.at fun j u hj => by
       rw [List.append_nil] at hj;have hj' : j < n * k' := by have := lt_of_getElem? hj; omega
       rw [List.getElem?_take_of_lt hj'] at hj;simpa using hj)
     refine fin hx hy (run_append_zero hu hi hcap) ?_ q1 q2;refine .sl _ _ _ _ _ _ _ (by simp [hh.len]) hcap fun g' sz' hg' => ?_;rw [List.getElem?_append_right (by simp [hh.len])] at hg';simp [hh.len] at hg';obtain ⟨rfl,rfl⟩ := hg';exact ⟨haddr,by omega⟩
    ·cases ao with
     | none => exact absurd (hnone rfl) hm
     | some ady =>
       have h1c := hcsn.oneCell hlf;by_cases hroom2 : n + m <= cap
       ·obtain rfl := haddr (by omega)
        have hfit : n * i.size + vs.length <= arr.size := by
         rw [hik,hvl,hlen];have := Nat.mul_le_mul_right k' hroom2;omega
        have hr := run_append_room' (P := P) (ty := o.type) (c := capy) hu hi hg (by rw [hvl,hik]) (hvc ady rfl) h1c hroom2 hfit;rw [hik] at hr hfit
        have hsize : (arr.toList.take (n * k') ++ vs ++ arr.toList.drop (n * k' + vs.length)).toArray.size = arr.size := by
         simp only [List.size_toArray,List.length_append,List.length_take,List.length_drop,Array.length_toList]; omega
        obtain ⟨q1,q2⟩ := hh.move (cs' := cs.take (n * k') ++ news) (arr' := (arr.toList.take (n * k') ++ vs ++ arr.toList.drop (n * k' + vs.length)).toArray) hφ hg hsz hsize rfl hX
         (by rw [hall.1,hsize]; simp; omega) (hall.at fun j u hj => by
          simp only [List.getElem?_toArray];rw [List.getElem?_append_left (lt_of_getElem? hj)];exact hj)
        refine fin hx hy hr (new_sl' (by simp [hh.len]) hroom2 (by omega)) q1 q2
       ·have holds : ∀ (j : Nat) (u : Value),(arr.toList.take (n * k'))[j]? = some u -> w.cell? (ad.add j) = some u := by
         intro j u hj;have hj' : j < n * k' := by have := lt_of_getElem? hj; omega
         have hn0 : 0 < n := by
          rcases Nat.eq_zero_or_pos n with h | h
          ·subst h; simp at hj'
          ·exact h
         obtain rfl := haddr (by omega);rw [Addr.add_none,cell_of_heap hg];rw [List.getElem?_take_of_lt hj'] at hj;simpa using hj
        have hmb : (n + m) * i.bytes <= 4294967296 * 1024 := Nat.mul_le_mul (by omega) hby
        have hr := run_append_grow (P := P) w t o.type e i z hu hi hiz ad n cap (arr.toList.take (n * k')) (by rw [hl2,hik]) holds ady m capy vs (by rw [hvl,hik]) (hvc ady rfl) (by omega) (by omega)
         (growslice_fits (by omega) (by omega))
        have hge := grownCap_ge w (n + m) cap e
        have hsz2 : ((arr.toList.take (n * k')).toArray ++ vs.toArray ++ Builtin.zeroCells z.cells (grownCap w (n + m) cap e - (n + m))).size = grownCap w (n + m) cap e * k' := by
         simp only [Array.size_append,List.size_toArray,size_zeroCells,hzk,hvl,hl2,<- Nat.add_mul]; congr 1; omega
        obtain ⟨k1,k2⟩ := hh.kill1 b;have hall' : Cs X (φ.set b none) w (cs.take (n * k') ++ news) (arr.toList.take (n * k') ++ vs) := ⟨hall.1,fun j x u hx hu => k2.rep (hall.2 j x u hx hu)⟩
        obtain ⟨q1,q2⟩ := alloc_ok k1 (w1 := w.drew) (arr := (arr.toList.take (n * k')).toArray ++ vs.toArray ++ Builtin.zeroCells z.cells (grownCap w (n + m) cap e - (n + m))) (e := e) (cs := cs.take (n * k') ++ news) rfl rfl rfl rfl
         (by rw [hsz2,hall.1,List.length_append,hl2,hvl,hlen]; exact Nat.mul_le_mul_right _ hge)
         (hall'.at fun j u hj => by
          rw [Array.getElem?_append_left (by simpa using lt_of_getElem? hj)];have : ((arr.toList.take (n * k')).toArray ++ vs.toArray) = (arr.toList.take (n * k') ++ vs).toArray := by simp
          rw [this];simpa using hj)
        refine fin hx hy hr ?_ q1 (k2.trans q2);exact new_sl' (by simp [hh.len]) hge (by rw [hsz2]; exact Nat.le_refl _)
 ·cases hs

theorem ok_copy {ca : Call} {x y : Operand} {t t' : TypeId} {k : Nat} {x' y' : E} {v : AV} {H' : Heap} {fl : Fp} {call : Nat -> List AV -> Heap -> Option (AV × Heap)} (hop : o.op = .call ca) (hca : ca.callee = .builtin .copy) (hargs : ca.args = #[x,y]) (hty : ca.argTypes = #[t,t'])
  (hh : HRel X φ w H) (rx : Rep (Rd X φ w) φ (ev c env x') (a.eval x)) (ry : Rep (Rd X φ w) φ (ev c env y') (a.eval y)) (hk : elemIs P t k = true) (hs : aOp c call env H (.copy k x' y') = some (v,H',fl)) : Ok P X φ w o a v H' := by
 obtain ⟨e,i,z,hu,hi,hik,hk0,hby,hiz,hzk⟩ := elemIs_spec hk
 have fin : ∀ {p q v' : Value} {w' : World} {φ' : Phi},a.eval x = p -> a.eval y = q -> (Builtin.copy_ #[t,t'] o.type #[p,q]).run P w = .ok v' w' -> Rep (Rd X φ' w') φ' v v' -> HRel X φ' w' H' -> Adv φ w φ' w' -> Ok P X φ w o a v H' := by
  intro p q v' w' φ' hp hq hr r h k;refine Ok.value ?_ r h k;simp only [execOp,hop,resolve,hca,hargs,hty,invoke,builtin,List.map_toArray,List.map_cons,List.map_nil,hp,hq,Sem.run_bind,Sem.run_pure,Result.andThen_ok,hr]
 simp only [aOp] at hs;split at hs
 case h_2 => cases hs
 rename_i news m hsc;obtain ⟨ao,capy,vs,hy,hvl,hcsn,hvc,hnone⟩ := sliceCells_ok hh hsc ry
 have zero : ∀ {base : Option Addr} {n cap : Nat},Nat.min m n = 0 -> (Builtin.copy_ #[t,t'] o.type #[.slice base n cap,.slice ao m capy]).run P w = .ok (.int .i64 0) w := by
  intro base n cap h0;cases base <;> cases ao <;> simp [Builtin.copy_,run_underlying hu,Builtin.lenOf,sizeOf,run_info hi,h0,Builtin.firstCells,loadCells,loadCellsFrom,storeCells,goInt]
 split at hs
 ·rename_i hx';rw [hx'] at rx;generalize hx : a.eval x = ax at rx;cases rx;simp at hs;obtain ⟨rfl,rfl,rfl⟩ := hs;exact fin hx hy (zero (Nat.min_zero m)) (.int _ _ _) hh (.refl _ _)
 ·rename_i k' b off n hx';split at hs
  case h_2 => cases hs
  rename_i cs hcs;split at hs
  case isFalse => cases hs
  rename_i hc;obtain ⟨rfl,hfit,hlf⟩ := hc;simp only [Option.some.injEq,Prod.mk.injEq] at hs;obtain ⟨rfl,rfl,rfl⟩ := hs;rw [hx'] at rx;generalize hx : a.eval x = ax at rx;cases rx with
  | sl _ _ _ _ _ ad cap hb hcap hp =>
    obtain ⟨g,sz,arr,e2,hφ,hg,hsz,hle,hX,hm6⟩ := hh.at hcs;by_cases h0 : min m n = 0
    ·have e0 : H.set b (some (ovw cs off (news.take (min m n * k')))) = H := by
      have e1 : ovw cs off (news.take (min m n * k')) = cs := by rw [h0]; simp [ovw]
      rw [e1]
      have hb' : H[b]? = some (some cs) := by
       unfold blk at hcs;split at hcs
       ·rename_i q hq;cases hcs;exact hq
       ·cases hcs
      apply List.ext_getElem?;intro j;rw [List.getElem?_set];split
      ·rename_i ej;subst ej;rw [hb'];simp [lt_of_getElem? hb']
      ·rfl
     have h0' : Nat.min m n = 0 := h0;exact fin hx hy (zero h0') (by rw [h0]; exact .int _ _ _) (by rw [e0]; exact hh) (.refl _ _)
    ·obtain rfl := (hp g sz hφ).1 (by omega);cases ao with
     | none => exact absurd (hnone rfl) (by omega)
     | some ady =>
       have rp : Rep (Rd X φ w) φ (.ptr b off) (.pointer (some ⟨g,off,none⟩)) := .ptr _ _ _ _ hb fun g' sz' hg' => by
        rw [hφ] at hg';simp at hg';rw [hg'.1]
       have hle2 : min m n * k' <= m * k' := Nat.mul_le_mul_right _ (Nat.min_le_left _ _);have hle3 : min m n * k' <= n * k' := Nat.mul_le_mul_right _ (Nat.min_le_right _ _)
       have hcz : Cs X φ w (news.take (min m n * k')) (vs.take (min m n * k')) := by
        refine ⟨by simp [hcsn.1],fun j d u hd hu => ?_⟩;have hj : j < min m n * k' := by have := lt_of_getElem? hd; rw [List.length_take] at this; omega
        rw [List.getElem?_take_of_lt hj] at hd hu;exact hcsn.2 j d u hd hu
       have hnl : news.length = m * k' := by rw [hcsn.1,hvl]
       obtain ⟨g',w',e1,hst,q1,q2⟩ := write_ok (P := P) hh hcs rp hcz (fun u hu => hcsn.oneCell hlf u (List.mem_of_mem_take hu)) (by rw [List.length_take]; omega);simp at e1;subst e1
       have hf := run_firstCells_some (P := P) w i.size (min m n) ady m capy (vs.take (min m n * k')) (by rw [List.length_take,hvl,hik]; omega) (fun j u hj => by
        have hj' : j < min m n * k' := by have := lt_of_getElem? hj; rw [List.length_take] at this; omega
        rw [List.getElem?_take_of_lt hj'] at hj;exact hvc ady rfl j u hj)
       have hmin : Nat.min m n = min m n := rfl;refine fin hx hy (v' := .int .i64 ((min m n : Nat) : Int)) (w' := w') ?_ (.int _ _ _) q1 q2;have hf' : (Builtin.firstCells i.size (Nat.min m n) (.slice (some ady) m capy)).run P w = .ok (vs.take (min m n * k')).toArray w := hf;simp [Builtin.copy_,run_underlying hu,Builtin.lenOf,sizeOf,run_info hi,hf',hst,goInt]
       try rfl
 ·cases hs

/-! Calls -/
def Ret (X : Nat -> Prop) (φ : Phi) (w : World) (r : AV) (H' : Heap) (e : Ending) (w' : World) : Prop :=
 ∃ v' φ',e = .returned v' /\ Rep (Rd X φ' w') φ' r v' /\ HRel X φ' w' H' /\ Adv φ w φ' w'
def CallOK (P : Program) (c : Cfg) (call : Nat -> List AV -> Heap -> Option (AV × Heap)) : Prop :=
 ∀ f m q,c.fn f = some (m,q) -> ∀ args H r H',call f args H = some (r,H') -> ∀ X φ w vargs,ARel X φ w args vargs -> HRel X φ w H -> GlOK c X φ w -> Calls P f vargs w (Ret X φ w r H')

theorem HRel.own_lt (h : HRel X φ w H) {g : Nat} (ho : Owned φ g) : g < w.heap.size /\ ¬ X g := by
 obtain ⟨b,sz,hb⟩ := ho;obtain ⟨x,hx⟩ := getElem?_some_of (l := H) (i := b) (h.len ▸ lt_of_getElem? hb);cases x with
 | none => rw [h.dead b hx] at hb; simp at hb
 | some cs =>
   obtain ⟨g',sz',arr,e,h1,h2,_,_,h5,_⟩ := h.live b cs hx;rw [h1] at hb;simp at hb;rw [<- hb.1];exact ⟨(Array.getElem?_eq_some_iff.1 h2).1,h5⟩
theorem HRel.empty (h : HRel X φ w H) : HRel (fun g => X g \/ Owned φ g) [] w [] :=
 ⟨rfl,fun g hg => hg.elim (h.xlt g) (fun ho => (h.own_lt ho).1),fun b cs hb => by simp at hb,fun b hb => by simp at hb,fun b b' g sz sz' h1 => by simp at h1⟩
theorem mapF_frz (hh : HRel X φ w H) {R : Addr -> Value -> Prop} (hR : ∀ a u,Rd X φ w a u -> R a u) {xs ys : List AV} {bs : List Nat} {n : Nat} {vs : Array Value} (hm : mapF (frz H n) xs = some (ys,bs))
  (hb : ∀ b ∈ bs,∀ g sz : Nat,φ[b]? = some (some (g,sz)) -> ∀ o u,w.cell? ⟨g,o,none⟩ = some u -> R ⟨g,o,none⟩ u) (ha : ARel X φ w xs vs) :
  ys.length = vs.size /\ ∀ (i : Nat) (c : AV) (v : Value),ys[i]? = some c -> vs[i]? = some v -> Rep R [] c v := by
 obtain ⟨hl,hm'⟩ := mapF_spec hm;refine ⟨by rw [hl,ha.1],fun i c v hc hv => ?_⟩;obtain ⟨x,hx⟩ := getElem?_some_of (l := xs) (i := i) (by have := lt_of_getElem? hc; omega);obtain ⟨y,b,e1,e2,e3⟩ := hm' i x hx;rw [e2] at hc;simp at hc;subst hc;exact frz_rep hh hR n x _ v b e1 (fun b' hb' => hb b' (e3 b' hb')) (ha.2 i x v hx hv)

theorem pure_call {call : Nat -> List AV -> Heap -> Option (AV × Heap)} (hcall : CallOK P c call) {f : Nat} {m : Md} {q : AFn} (hf : c.fn f = some (m,q)) {args : List AV} {r r' : AV} {H1 : Heap} {bs : List Nat} (hr : call f args [] = some (r,H1)) (hz : frz H1 DEEP r = some (r',bs))
  (hh : HRel X φ w H) (hg : GlOK c X φ w) {vargs : Array Value} (ha : args.length = vargs.size /\ ∀ (i : Nat) (c : AV) (v : Value),args[i]? = some c -> vargs[i]? = some v -> Rep (Rd X φ w) [] c v) :
  Calls P f vargs w (Ret X φ w r' H) := by
 have hsub : ∀ {w' : World} a u,Rd X φ w' a u -> Rd (fun g => X g \/ Owned φ g) [] w' a u := fun a u ⟨h1,h2,h3⟩ => ⟨fun h => h.elim h1 h2,Owned.nil _,h3⟩;have hback : ∀ {w' : World} a u,Rd (fun g => X g \/ Owned φ g) [] w' a u -> Rd X φ w' a u := fun a u ⟨h1,_,h3⟩ => ⟨fun h => h1 (.inl h),fun h => h1 (.inr h),h3⟩;refine (hcall f m q hf args [] r H1 hr (fun g => X g \/ Owned φ g) [] w vargs ⟨ha.1,fun i x v hx hv => (ha.2 i x v hx hv).mono hsub (.refl _)⟩ hh.empty (fun g => (hg g).mono hsub (.refl _))).mono ?_;rintro e w1 ⟨v',φ1,rfl,r1,h1,a1⟩;refine ⟨v',φ,rfl,?_,hh.of_same a1,.of_same a1⟩
 have hfz := frz_rep h1 (R := Rd (fun g => X g \/ Owned φ g) [] w1) (fun a u ⟨p1,p2,p3⟩ => ⟨p1,Owned.nil _,p3⟩) DEEP r r' v' bs hz
  (fun b _ g sz hb o u hu => ⟨(h1.own_lt ⟨b,sz,hb⟩).2,Owned.nil _,hu⟩) r1
 exact (hfz.mono hback (.refl _)).mono0 φ
theorem doCall_ok {call : Nat -> List AV -> Heap -> Option (AV × Heap)} (hcall : CallOK P c call) {f : Nat} {args : List AV} {r : AV} {H' : Heap} {fl : Fp} (hs : doCall c call f args H = some (r,H',fl))
  (hh : HRel X φ w H) (hg : GlOK c X φ w) {vargs : Array Value} (ha : ARel X φ w args vargs) : (∃ m q,c.fn f = some (m,q)) /\ Calls P f vargs w (Ret X φ w r H') := by
 unfold doCall at hs;split at hs
 ·cases hs
 ·rename_i q hf;refine ⟨⟨_,_,hf⟩,?_⟩;split at hs
  case h_2 => cases hs
  rename_i r1 H1 hr;simp at hs;obtain ⟨rfl,rfl,rfl⟩ := hs;exact hcall f _ q hf args H r1 H1 hr X φ w vargs ha hh hg
 ·rename_i q hf;refine ⟨⟨_,_,hf⟩,?_⟩;split at hs
  case h_2 => cases hs
  rename_i r1 H1 hr;split at hs
  case h_2 => cases hs
  rename_i r' bs hz;split at hs
  case isFalse => cases hs
  rename_i hc;obtain ⟨hle,hge,hok⟩ := hc;simp at hs;obtain ⟨rfl,rfl,rfl⟩ := hs;refine (hcall f _ q hf args H r1 H1 hr X φ w vargs ha hh hg).mono ?_;rintro e w1 ⟨v',φ1,rfl,r1,h1,a1⟩;have hlen := hh.len;refine ⟨v',φ1.take φ.length,rfl,?_,by rw [hlen]; exact h1.take hle hok,a1.take⟩
  have hmem : ∀ {n : Nat} {l : List Nat},allGe n l = true -> ∀ b ∈ l,n <= b := by
   intro n l
   induction l with
   | nil => intro _ b hb; simp at hb
   | cons x r ih =>
     intro h b hb;simp only [allGe,Bool.and_eq_true,decide_eq_true_eq] at h;rcases List.mem_cons.1 hb with h' | h'
     ·subst h'; exact h.1
     ·exact ih h.2 b h'
  have hfz := frz_rep h1 (R := Rd X (φ1.take φ.length) w1) rd_take DEEP _ _ v' bs hz (fun b hb g sz hφ o u hu => ?_) r1
  ·exact hfz.mono0 _
  ·refine ⟨(h1.own_lt ⟨b,sz,hφ⟩).2,fun ⟨b',sz',hb'⟩ => ?_,hu⟩;rw [List.getElem?_take] at hb';split at hb'
   ·rename_i hlt;have := h1.inj b b' g sz sz' hφ hb';have := hmem hge b hb;omega
   ·cases hb'
 ·rename_i q hf;refine ⟨⟨_,_,hf⟩,?_⟩;split at hs
  ·rename_i hpl;split at hs
   case h_2 => cases hs
   rename_i r1 H1 hr;split at hs
   case h_2 => cases hs
   rename_i r' bs hz;simp at hs;obtain ⟨rfl,rfl,rfl⟩ := hs;exact pure_call hcall hf hr hz hh hg ⟨ha.1,fun i x v hx hv => (ha.2 i x v hx hv).of_plain (plainL_mem hpl i x hx) []⟩
  ·split at hs
   case h_2 => cases hs
   rename_i args' bs hm;split at hs
   case h_2 => cases hs
   rename_i r1 H1 hr;split at hs
   case h_2 => cases hs
   rename_i r' bs' hz;split at hs
   ·rename_i hflat;simp at hs;obtain ⟨rfl,rfl,rfl⟩ := hs;have hh0 : HRel X [] w [] := ⟨rfl,hh.xlt,fun b cs hb => by simp at hb,fun b hb => by simp at hb,fun b b' g sz sz' h1 => by simp at h1⟩;have hsub : ∀ {w' : World} a u,Rd X φ w' a u -> Rd X [] w' a u := fun a u ⟨h1,_,h3⟩ => ⟨h1,Owned.nil _,h3⟩;have ha' := mapF_frz hh (R := Rd X [] w) hsub hm (fun b _ g sz hb o u hu => ⟨(hh.own_lt ⟨b,sz,hb⟩).2,Owned.nil _,hu⟩) ha;have hc := pure_call (X := X) (φ := []) (H := []) hcall hf hr hz hh0 (fun g => (hg g).mono hsub (.refl _)) ha';refine hc.mono ?_;rintro e w1 ⟨v',φ1,rfl,r1,h1,a1⟩;exact ⟨v',φ,rfl,r1.of_flat hflat _ _,hh.of_same a1,.of_same a1⟩
   ·simp at hs;obtain ⟨rfl,rfl,rfl⟩ := hs;obtain ⟨k1,k2⟩ := HRel.kill bs hh
    have ha' := mapF_frz hh (R := Rd X (killP φ bs) w) k2.rd hm (fun b hb g sz hφ o u hu => ⟨(hh.own_lt ⟨b,sz,hφ⟩).2,fun ⟨b',sz',hb'⟩ => by
     obtain ⟨e1,e2⟩ := killP_sub bs φ b' _ hb';exact e2 (hh.inj b b' g sz sz' hφ e1 ▸ hb),hu⟩) ha
    have hc := pure_call hcall hf hr hz k1 (hg.adv k2) ha';refine hc.mono ?_;rintro e w1 ⟨v',φ1,rfl,r1,h1,a1⟩;exact ⟨v',φ1,rfl,r1,h1,k2.trans a1⟩

theorem run_callFunc (hok : CfgOK P c) {f : Nat} {m : Md} {q : AFn} (hf : c.fn f = some (m,q)) (vargs : Array Value) : (callFunc f vargs).run P w = .ok (.enter f vargs) w := by
 obtain ⟨fn,h1,h2⟩ := hok.fn f m q hf;simp only [chkF,Bool.and_eq_true,Bool.not_eq_true'] at h2;obtain ⟨⟨⟨_,hname⟩,_⟩,hbody⟩ := h2
 have hb : fn.body.isNone = false := by
  cases hfb : fn.body with
  | none => rw [hfb] at hbody; cases hbody
  | some b => rfl
 simp only [callFunc,Sem.run_bind,run_program,Result.andThen_ok,h1,hname,hb,Bool.false_eq_true,if_false,Sem.run_pure]
theorem Ok.call {f : Nat} {vargs : Array Value} {r : AV} {H' : Heap} (hr : (execOp a.eval o).run P w = .ok (.enter f vargs) w) (hc : Calls P f vargs w (Ret X φ w r H')) : Ok P X φ w o a r H' := by
 intro K Q hK;unfold Oper.wp;rw [hr,Oper.upon_enter];refine hc.mono ?_;rintro e w' ⟨v',φ',rfl,r1,h1,a1⟩;exact hK v' w' φ' r1 h1 a1
theorem ok_call {call : Nat -> List AV -> Heap -> Option (AV × Heap)} (hok : CfgOK P c) (hcall : CallOK P c call) {ca : Call} {f : Nat} {ys : List E} {r : AV} {H' : Heap} {fl : Fp} (hop : o.op = .call ca) (hca : ca.callee = .value (.func f))
  (hh : HRel X φ w H) (he : ERel X φ w env a.tmps) (hg : GlOK c X φ w) (hargs : chkEs ca.args.toList ys = true) (hs : aOp c call env H (.call f ys) = some (r,H',fl)) : Ok P X φ w o a r H' := by
 obtain ⟨hl,hr⟩ := evals_rep he hg hargs;obtain ⟨⟨m,q,hf⟩,hc⟩ := doCall_ok (P := P) hcall hs hh hg (vargs := ca.args.map a.eval) ⟨by simp [hl],fun i x v hx hv => hr i x v hx (by simpa using hv)⟩;refine Ok.call ?_ hc;simp only [execOp,hop,resolve,hca,Act.eval,Deferred.ofValue,invoke,Sem.run_bind,Sem.run_pure,Result.andThen_ok,Array.empty_append,Array.append_empty];exact run_callFunc hok hf _
theorem ok_callv {call : Nat -> List AV -> Heap -> Option (AV × Heap)} (hok : CfgOK P c) (hcall : CallOK P c call) {ca : Call} {x : Operand} {y : E} {ys : List E} {r : AV} {H' : Heap} {fl : Fp} (hop : o.op = .call ca) (hca : ca.callee = .value x)
  (hh : HRel X φ w H) (he : ERel X φ w env a.tmps) (hg : GlOK c X φ w) (hx : chkE x y = true) (hargs : chkEs ca.args.toList ys = true) (hs : aOp c call env H (.callv y ys) = some (r,H',fl)) : Ok P X φ w o a r H' := by
 obtain ⟨hl,hr⟩ := evals_rep he hg hargs;have rx := eval_rep (a := a) he hg hx;simp only [aOp] at hs;split at hs
 case h_2 => cases hs
 rename_i f as bs hy;rw [hy] at rx;generalize hax : a.eval x = ax at rx;cases rx with
 | func _ _ _ va _ vb hla hlb hra hrb =>
   have hall : ARel X φ w (as ++ evs c env ys ++ bs) (va ++ ca.args.map a.eval ++ vb) := by
    have c1 : Cs X φ w as va.toList := ⟨by simpa using hla,fun i x v hx hv => hra i x v hx (by simpa using hv)⟩;have c2 : Cs X φ w (evs c env ys) (ca.args.map a.eval).toList := ⟨by simp [hl],fun i x v hx hv => hr i x v hx (by simpa using hv)⟩;have c3 : Cs X φ w bs vb.toList := ⟨by simpa using hlb,fun i x v hx hv => hrb i x v hx (by simpa using hv)⟩;have c4 := (c1.append c2).append c3
    exact ⟨by have := c4.1; simp at this ⊢; omega,fun i x v hx hv => c4.2 i x v hx (by
     have : (va ++ ca.args.map a.eval ++ vb).toList = va.toList ++ (ca.args.map a.eval).toList ++ vb.toList := by simp
     rw [<- this,Array.getElem?_toList]; exact hv)⟩
   obtain ⟨⟨m,q,hf⟩,hc⟩ := doCall_ok (P := P) hcall hs hh hg hall;refine Ok.call ?_ hc;simp only [execOp,hop,resolve,hca,hax,Deferred.ofValue,invoke,Sem.run_bind,Sem.run_pure,Result.andThen_ok];exact run_callFunc hok hf _
end
end Go.Am

/- Every operation; regions in the order of the text, and regions that draw their order. -/
namespace Go.Am
section
variable {P : Program} {c : Cfg} {X : Nat -> Prop} {φ : Phi} {w : World} {env : Env} {H : Heap} {a : Act} {o : Oper}

theorem op_ok {call : Nat -> List AV -> Heap -> Option (AV × Heap)} (hok : CfgOK P c) (hcall : CallOK P c call) (he : ERel X φ w env a.tmps) (hg : GlOK c X φ w) (hh : HRel X φ w H) {kd : Kd} {v : AV} {H' : Heap} {fl : Fp}
  (hk : chkK P o.op kd = true) (hs : aOp c call env H kd = some (v,H',fl)) : Ok P X φ w o a v H' := by
 generalize hop : o.op = op at hk;unfold chkK at hk;split at hk
 case h_1 =>
  simp [aOp] at hs; obtain ⟨rfl,rfl,_⟩ := hs;exact Ok.quiet (by simp [execOp,hop]) (eval_rep he hg hk) hh
 case h_2 =>
  simp [aOp] at hs; obtain ⟨rfl,rfl,_⟩ := hs;exact Ok.quiet (by simp [execOp,hop]) (eval_rep he hg hk) hh
 case h_3 =>
  simp only [Bool.and_eq_true] at hk;simp only [aOp] at hs;split at hs
  case h_2 => cases hs
  rename_i t ht;simp at hs; obtain ⟨rfl,rfl,_⟩ := hs;have r := eval_rep (a := a) he hg hk.1.1;rw [ht] at r;exact ok_pick hop hh r (eval_rep he hg hk.1.2) (eval_rep he hg hk.2)
 case h_4 =>
  simp [aOp] at hs; obtain ⟨rfl,rfl,_⟩ := hs;exact ok_new hop hh hk
 case h_5 =>
  simp only [aOp] at hs;split at hs
  case isFalse => cases hs
  rename_i hl;simp at hs; obtain ⟨rfl,rfl,_⟩ := hs;exact ok_box hop hh (eval_rep he hg hk) hl
 case h_6 =>
  simp only [Bool.and_eq_true] at hk;simp only [aOp] at hs;split at hs
  case h_2 => cases hs
  rename_i cs hf;simp at hs; obtain ⟨rfl,rfl,_⟩ := hs;exact ok_build hop hh he hg hk.1 hk.2 hf
 case h_7 =>
  simp only [Bool.and_eq_true,decide_eq_true_eq] at hk;obtain ⟨⟨⟨⟨h1,h2⟩,h3⟩,h4⟩,h5⟩ := hk;subst h1;simp only [aOp] at hs;split at hs
  case h_2 => cases hs
  rename_i cs hf;split at hs
  case isFalse => cases hs
  simp at hs; obtain ⟨rfl,rfl,_⟩ := hs;exact ok_bslice hop hh he hg h2 h3 h4 h5 hf
 case h_8 =>
  simp only [Bool.and_eq_true,decide_eq_true_eq] at hk;exact ok_ld hop hh (eval_rep he hg hk.2) hk.1 hs
 case h_9 =>
  simp only [Bool.and_eq_true] at hk;simp only [aOp] at hs;split at hs
  case h_2 => cases hs
  rename_i b off hb;split at hs
  case h_2 => cases hs
  rename_i cs hcs;split at hs
  case isFalse => cases hs
  rename_i hc;simp at hs; obtain ⟨rfl,rfl,_⟩ := hs;have r := eval_rep (a := a) he hg hk.1.2;rw [hb] at r;exact ok_st hop hh hcs hk.1.1 r (eval_rep he hg hk.2) hc.1 hc.2.1 hc.2.2
 case h_10 => exact ok_nilck hop hh (eval_rep he hg hk) hs
 case h_11 =>
  simp only [Bool.and_eq_true,decide_eq_true_eq] at hk;obtain ⟨⟨h1,h2⟩,h3⟩ := hk;subst h1;simp only [aOp] at hs;split at hs
  case h_2 => cases hs
  rename_i r hr;simp at hs; obtain ⟨rfl,rfl,_⟩ := hs;exact ok_bin hop hh (eval_rep he hg h2) (eval_rep he hg h3) hr
 case h_12 =>
  simp only [Bool.and_eq_true] at hk;obtain ⟨⟨⟨h1,h2⟩,h3⟩,h4⟩ := hk;simp only [aOp] at hs;split at hs
  case h_2 => cases hs
  rename_i e hr;simp at hs; obtain ⟨rfl,rfl,_⟩ := hs;have := ok_eq hop hh h1 h2 (eval_rep he hg h3) (eval_rep he hg h4) hr;simpa using this
 case h_13 =>
  simp only [Bool.and_eq_true,decide_eq_true_eq] at hk;obtain ⟨h1,h2⟩ := hk;subst h1;simp only [aOp] at hs;split at hs
  case h_2 => cases hs
  rename_i r hr;simp at hs; obtain ⟨rfl,rfl,_⟩ := hs;exact ok_un hop hh (eval_rep he hg h2) hr
 case h_14 =>
  simp only [Bool.and_eq_true] at hk;obtain ⟨⟨h1,h2⟩,h3⟩ := hk;split at h2
  case h_2 => cases h2
  rename_i k' hu;simp at h2;subst h2;simp only [aOp] at hs;split at hs
  case h_2 => cases hs
  rename_i k2 n hn;simp at hs; obtain ⟨rfl,rfl,_⟩ := hs;have r := eval_rep (a := a) he hg h3;rw [hn] at r;exact ok_cvt hop hh h1 hu r
 case h_15 =>
  simp only [Bool.and_eq_true,decide_eq_true_eq] at hk;obtain ⟨⟨h1,h2⟩,h3⟩ := hk;subst h1;simp [aOp] at hs; obtain ⟨rfl,rfl,_⟩ := hs;exact ok_mkf hop hh he hg h2 h3
 case h_16 =>
  simp only [Bool.and_eq_true] at hk;obtain ⟨⟨⟨h1,h2⟩,h3⟩,h4⟩ := hk;simp only [aOp] at hs;split at hs
  case h_2 => cases hs
  rename_i k1 l k2 cp hl hcp;split at hs
  case isFalse => cases hs
  rename_i hc;simp at hs; obtain ⟨rfl,rfl,_⟩ := hs;have r1 := eval_rep (a := a) he hg h3;have r2 := eval_rep (a := a) he hg h4;rw [hl] at r1;rw [hcp] at r2;exact ok_mks hop hh h1 h2 r1 r2 hc.1 hc.2.1 hc.2.2
 case h_17 =>
  simp only [Bool.and_eq_true] at hk;obtain ⟨⟨⟨h1,h2⟩,h3⟩,h4⟩ := hk;exact ok_slc hop hh he hg h1 h2 h3 h4 hs
 case h_18 =>
  simp only [Bool.and_eq_true] at hk;exact ok_fad hop hh (eval_rep he hg hk.2) hk.1 hs
 case h_19 =>
  simp only [Bool.and_eq_true] at hk;exact ok_fld hop hh (eval_rep he hg hk.2) hk.1 hs
 case h_20 =>
  simp only [Bool.and_eq_true] at hk;exact ok_ixa hop hh (eval_rep he hg hk.1.2) (eval_rep he hg hk.2) hk.1.1 hs
 case h_21 =>
  simp only [Bool.and_eq_true] at hk;exact ok_ixp hop hh (eval_rep he hg hk.1.2) (eval_rep he hg hk.2) hk.1.1 hs
 case h_22 =>
  simp only [Bool.and_eq_true] at hk;exact ok_ix hop hh (eval_rep he hg hk.1.2) (eval_rep he hg hk.2) hk.1.1 hs
 case h_23 =>
  simp only [Bool.and_eq_true,decide_eq_true_eq] at hk;exact ok_ixs hop hh (eval_rep he hg hk.2) hk.1.1 hk.1.2 hs
 case h_24 =>
  rename_i args argTypes k zs x;split at hk
  case h_2 => cases hk
  rename_i x' t h1 h2;simp only [Bool.and_eq_true] at hk;exact ok_clr (x := x') (t := t) hop rfl (Array.toList_inj.1 h1) (Array.toList_inj.1 h2) hh (eval_rep he hg hk.2) hk.1.1 hk.1.2 hs
 case h_25 =>
  simp only [Bool.and_eq_true,decide_eq_true_eq] at hk;obtain ⟨h1,h2⟩ := hk;subst h1;simp only [aOp] at hs;split at hs
  case h_2 => cases hs
  rename_i vs hv;split at hs
  case h_2 => cases hs
  rename_i u hu;simp at hs; obtain ⟨rfl,rfl,_⟩ := hs;have r := eval_rep (a := a) he hg h2;rw [hv] at r;exact ok_ext hop hh r hu
 case h_26 =>
  simp only [Bool.and_eq_true,decide_eq_true_eq] at hk;obtain ⟨h1,h2⟩ := hk;subst h1;exact ok_call hok hcall hop rfl hh he hg h2 hs
 case h_27 =>
  simp only [Bool.and_eq_true] at hk;exact ok_callv hok hcall hop rfl hh he hg hk.1 hk.2 hs
 case h_28 =>
  rename_i args argTypes y;split at hk
  case h_2 => cases hk
  rename_i x t h1 h2;simp only [Bool.and_eq_true] at hk;exact ok_len (x := x) (t := t) hop rfl (Array.toList_inj.1 h1) (Array.toList_inj.1 h2) hh (eval_rep he hg hk.2) hk.1 hs
 case h_29 =>
  rename_i args argTypes k x y;split at hk
  case h_2 => cases hk
  rename_i x' y' t t' h1 h2;simp only [Bool.and_eq_true,decide_eq_true_eq] at hk;obtain ⟨⟨⟨h3,h4⟩,h5⟩,h6⟩ := hk;subst h3;exact ok_app (x := x') (y := y') (t := t) hop rfl (Array.toList_inj.1 h1) (Array.toList_inj.1 h2) hh (eval_rep he hg h5) (eval_rep he hg h6) h4 hs
 case h_30 =>
  simp only [aOp] at hs;split at hs
  case h_2 => cases hs
  rename_i r hr;simp at hs; obtain ⟨rfl,rfl,_⟩ := hs;exact ok_min (mx := false) hop rfl hh he hg hk hr
 case h_31 =>
  simp only [aOp] at hs;split at hs
  case h_2 => cases hs
  rename_i r hr;simp at hs; obtain ⟨rfl,rfl,_⟩ := hs;exact ok_min (mx := true) hop rfl hh he hg hk hr
 case h_32 =>
  simp only [Bool.and_eq_true] at hk;exact ok_asl hop hh he hg hk.2.2 (eval_rep he hg hk.2.1) hk.1 hs
 case h_33 =>
  rename_i args argTypes k x y;split at hk
  case h_2 => cases hk
  rename_i x' y' t t' h1 h2;simp only [Bool.and_eq_true] at hk;exact ok_copy (x := x') (y := y') (t := t) (t' := t') hop rfl (Array.toList_inj.1 h1) (Array.toList_inj.1 h2) hh (eval_rep he hg hk.1.2) (eval_rep he hg hk.2) hk.1.1 hs
 case h_34 => cases hs
 case h_35 => cases hk

structure SRel (X : Nat -> Prop) (φ : Phi) (w : World) (s : St) (a : Act) (N : Nat) : Prop where
 env : ERel X φ w s.env a.tmps
 heap : HRel X φ w s.H
 defers : a.defers = []
 size : a.tmps.size = N

theorem put_sz (a : Act) (d : Option Nat) (v : Value) : (a.put d v).tmps.size = a.tmps.size /\ (a.put d v).defers = a.defers := by cases d <;> simp [Act.put]
theorem SRel.put {s : St} {N : Nat} {φ' : Phi} {w' : World} {d : Option Nat} {v : AV} {v' : Value} {H' : Heap} (h : SRel X φ w s a N) (hd : ∀ i,d = some i -> i < N) (r : Rep (Rd X φ' w') φ' v v') (hh : HRel X φ' w' H') (k : Adv φ w φ' w') :
  SRel X φ' w' ⟨putd s.env d v,H'⟩ (a.put d v') N := by
 obtain ⟨h1,h2⟩ := put_sz a d v';refine ⟨?_,hh,by rw [h2]; exact h.defers,by rw [h1]; exact h.size⟩;cases d with
 | none => exact h.env.adv k
 | some i => exact (h.env.adv k).put (by rw [h.size]; exact hd i rfl) r
theorem getD_bool {ts : Array Value} {g : Nat} {b : Bool} (h : ts.getD g undef = .bool b) : ts[g]? = some (.bool b) := by
 rw [Array.getD_eq_getD_getElem?] at h;cases hg : ts[g]? with
 | none => rw [hg] at h; simp [undef] at h
 | some v => rw [hg] at h; simp at h; rw [h]
theorem getD_undef {ts : Array Value} {g : Nat} (h : ts.getD g undef = .tuple #[]) : ts[g]? = none \/ ts[g]? = some (.tuple #[]) := by
 rw [Array.getD_eq_getD_getElem?] at h;cases hg : ts[g]? with
 | none => exact .inl rfl
 | some v => rw [hg] at h; simp at h; rw [h]; exact .inr rfl

end
end Go.Am

/- Regions that draw their order: the order makes no difference. -/
namespace Go.Am
section
variable {P : Program} {c : Cfg} {call : Nat -> List AV -> Heap -> Option (AV × Heap)}

theorem ev_congr {e1 e2 : Env} {x : E} (h : ∀ i ∈ x.slot,get e1 i = get e2 i) : ev c e1 x = ev c e2 x := by
 cases x with
 | t i => exact h i (by simp [E.slot])
 | k x => rfl
 | g i => rfl
theorem evs_congr {e1 e2 : Env} : ∀ {xs : List E},(∀ i ∈ slots xs,get e1 i = get e2 i) -> evs c e1 xs = evs c e2 xs
 | [],_ => rfl
 | x :: r,h => by
   simp only [slots,List.mem_append] at h;simp only [evs];rw [ev_congr fun i hi => h i (.inl hi),evs_congr fun i hi => h i (.inr hi)]
theorem fillA_congr {e1 e2 : Env} : ∀ {ps : List (Nat × Nat × E)} {zs : List AV},(∀ i ∈ slotsP ps,get e1 i = get e2 i) -> fillA c e1 zs ps = fillA c e2 zs ps
 | [],_,_ => by simp [fillA]
 | (o,s,x) :: r,zs,h => by
   simp only [slotsP,List.mem_append] at h;simp only [fillA];rw [ev_congr fun i hi => h i (.inl hi)];split
   ·exact fillA_congr fun i hi => h i (.inr hi)
   ·rfl
theorem bndO_congr {e1 e2 : Env} {d m : Nat} {x : Option E} (h : ∀ i ∈ slotO x,get e1 i = get e2 i) : bndO c e1 d m x = bndO c e2 d m x := by
 cases x with
 | none => rfl
 | some x => simp only [bndO]; rw [ev_congr h]
theorem aOp_congr {e1 e2 : Env} {H : Heap} {kd : Kd} (h : ∀ i ∈ kd.reads,get e1 i = get e2 i) : aOp c call e1 H kd = aOp c call e2 H kd := by
 cases kd <;> simp only [Kd.reads,List.mem_append] at h <;> simp only [aOp]
 case pick x y z => rw [ev_congr fun i hi => h i (.inl hi),ev_congr fun i hi => h i (.inr (.inl hi)),ev_congr fun i hi => h i (.inr (.inr hi))]
 case build => rw [fillA_congr h]
 case bslice => rw [fillA_congr h]
 case slc k x lo hi => rw [ev_congr fun i hi => h i (.inl hi)]; simp only [bndO_congr (c := c) fun i hi => h i (.inr (.inl hi)),bndO_congr (c := c) fun i hi => h i (.inr (.inr hi))]
 case asl n x u => simp only [ev_congr (c := c) fun i hi => h i (.inl hi),bndO_congr (c := c) fun i hi => h i (.inr hi)]
 case call => rw [evs_congr h]
 case min => rw [evs_congr h]
 case max => rw [evs_congr h]
 case mkf => rw [evs_congr fun i hi => h i (.inl hi),evs_congr fun i hi => h i (.inr hi)]
 case callv => rw [ev_congr fun i hi => h i (.inl hi),evs_congr fun i hi => h i (.inr hi)]
 all_goals first
  | rfl
  | rw [ev_congr h]
  | rw [ev_congr fun i hi => h i (.inl hi),ev_congr fun i hi => h i (.inr hi)]
theorem blk_set_ne {H : Heap} {b b' : Nat} {x : Blk} (h : b ≠ b') : blk (H.set b x) b' = blk H b' := by
 unfold blk; rw [List.getElem?_set_ne h]
theorem blk_append {H T : Heap} {b : Nat} (h : b < H.length) : blk (H ++ T) b = blk H b := by
 unfold blk; rw [List.getElem?_append_left h]
def FpOK (fp : Fp) (H H' : Heap) (v : AV) (f : Heap -> Option (AV × Heap × Fp)) : Prop :=
 (fp = .no -> H' = H /\ ∀ H2,f H2 = some (v,H2,.no)) /\ (∀ b,fp = .rd b -> H' = H /\ ∀ H2,blk H2 b = blk H b -> f H2 = some (v,H2,.rd b)) /\ (fp = .ra -> H' = H) /\
 (∀ n bs,fp = .wr n bs -> ∀ b,b < n -> b ∉ bs -> blk H' b = blk H b)
theorem FpOK.wr0 {H H' : Heap} {v : AV} {f : Heap -> Option (AV × Heap × Fp)} : FpOK (.wr 0 []) H H' v f :=
 ⟨(fun h => by cases h),(fun b h => by cases h),(fun h => by cases h),fun n bs h b hb => by cases h; omega⟩
theorem FpOK.no {H : Heap} {v : AV} {f : Heap -> Option (AV × Heap × Fp)} (h : ∀ H2,f H2 = some (v,H2,.no)) : FpOK .no H H v f :=
 ⟨fun _ => ⟨rfl,h⟩,(fun b h => by cases h),fun _ => rfl,(fun n bs h => by cases h)⟩
theorem FpOK.ra {H : Heap} {v : AV} {f : Heap -> Option (AV × Heap × Fp)} : FpOK .ra H H v f :=
 ⟨(fun h => by cases h),(fun b h => by cases h),fun _ => rfl,(fun n bs h => by cases h)⟩
theorem FpOK.rd {H : Heap} {v : AV} {b : Nat} {f : Heap -> Option (AV × Heap × Fp)} (h : ∀ H2,blk H2 b = blk H b -> f H2 = some (v,H2,.rd b)) : FpOK (.rd b) H H v f :=
 ⟨(fun h => by cases h),(fun b' hb => by cases hb; exact ⟨rfl,h⟩),fun _ => rfl,(fun n bs h => by cases h)⟩
theorem FpOK.wr {H H' : Heap} {v : AV} {n : Nat} {bs : List Nat} {f : Heap -> Option (AV × Heap × Fp)} (h : ∀ b,b < n -> b ∉ bs -> blk H' b = blk H b) : FpOK (.wr n bs) H H' v f :=
 ⟨(fun h => by cases h),(fun b h => by cases h),(fun h => by cases h),fun n' bs' e => by cases e; exact h⟩
theorem doCall_fp {f : Nat} {args : List AV} {H H' : Heap} {v : AV} {fl : Fp} (h : doCall c call f args H = some (v,H',fl)) : FpOK fl H H' v (doCall c call f args) := by
 unfold doCall at h;split at h
 ·cases h
 ·split at h
  ·simp at h; obtain ⟨_,_,rfl⟩ := h; exact .wr0
  ·cases h
 ·split at h
  ·split at h
   ·split at h
    ·simp at h; obtain ⟨_,_,rfl⟩ := h; exact .wr0
    ·cases h
   ·cases h
  ·cases h
 ·rename_i q hf;split at h
  ·rename_i hp;split at h
   ·rename_i r H1 hr;split at h
    ·rename_i r' bs hz;simp at h;obtain ⟨rfl,rfl,rfl⟩ := h;exact .no fun H2 => by simp [doCall,hf,hp,hr,hz]
    ·cases h
   ·cases h
  ·split at h
   ·split at h
    ·split at h
     ·split at h
      ·simp at h; obtain ⟨_,rfl,rfl⟩ := h; exact .ra
      ·simp at h; obtain ⟨_,_,rfl⟩ := h; exact .wr0
     ·cases h
    ·cases h
   ·cases h
theorem aOp_fp {env : Env} {H H' : Heap} {kd : Kd} {v : AV} {fl : Fp} (h : aOp c call env H kd = some (v,H',fl)) : FpOK fl H H' v (fun H2 => aOp c call env H2 kd) := by
 have app : ∀ {T : Heap} (b : Nat),b < H.length -> b ∉ ([] : List Nat) -> blk (H ++ T) b = blk H b := fun b hb _ => blk_append hb;have st : ∀ {x : Blk} {b0 : Nat} (b : Nat),b < H.length -> b ∉ [b0] -> blk (H.set b0 x) b = blk H b := fun b _ hn => blk_set_ne (by simp at hn; exact fun e => hn e.symm)
 have mv : ∀ {x : Blk} {T : Heap} {b0 : Nat} (b : Nat),b < H.length -> b ∉ [b0] -> blk (H.set b0 x ++ T) b = blk H b := fun b hb hn => by
  rw [blk_append (by simpa using hb)]; exact blk_set_ne (by simp at hn; exact fun e => hn e.symm)
 have same : ∀ (b : Nat),b < H.length -> b ∉ ([] : List Nat) -> blk H b = blk H b := fun _ _ _ => rfl;cases kd
 case call f xs => simp only [aOp] at h ⊢; exact doCall_fp h
 case callv x xs =>
  simp only [aOp] at h ⊢;split at h
  ·exact doCall_fp h
  ·cases h
 case ld ag x =>
  simp only [aOp] at h ⊢;split at h
  ·rename_i cs hx;split at h
   ·rename_i u hu;simp at h;obtain ⟨rfl,rfl,rfl⟩ := h;exact .no fun H2 => by simp [hu]
   ·cases h
  ·rename_i b off hx;split at h
   ·rename_i cs hb;split at h
    ·rename_i u hu;simp at h;obtain ⟨rfl,rfl,rfl⟩ := h;exact .rd fun H2 h2 => by simp [h2,hb,hu]
    ·cases h
   ·cases h
  ·cases h
 case asl n x hi =>
  simp only [aOp] at h ⊢;split at h
  case h_2 => cases h
  rename_i m hm;split at h
  ·split at h
   ·rename_i hc;simp at h;obtain ⟨rfl,rfl,rfl⟩ := h;exact .no fun H2 => by simp [hc]
   ·cases h
  ·rename_i b off hx;split at h
   ·rename_i cs hb;split at h
    ·rename_i hc;simp at h;obtain ⟨rfl,rfl,rfl⟩ := h;exact .rd fun H2 h2 => by simp [h2,hb,hc]
    ·cases h
   ·cases h
  ·cases h
 all_goals simp only [aOp] at h ⊢
 all_goals
  (repeat' split at h)
  all_goals first
   | (cases h; done)
   | (simp at h; obtain ⟨rfl,rfl,rfl⟩ := h; first | exact .wr app | exact .wr st | exact .wr mv | exact .wr same | (refine .no fun H2 => ?_; simp_all; done))
def stepV (c : Cfg) (call : Nat -> List AV -> Heap -> Option (AV × Heap)) (env : Env) (H : Heap) (o : O) : Option (AV × Heap × Fp) :=
 match o.guard with
 | none => aOp c call env H o.kd
 | some (g,want) => match get env g with
   | .bool b => if b = want then aOp c call env H o.kd else some (.undef,H,.no)
   | .undef => some (.undef,H,.no)
   | _ => none
theorem stepV_congr {e1 e2 : Env} {H : Heap} {q : O} (h : ∀ i ∈ q.reads,get e1 i = get e2 i) : stepV c call e1 H q = stepV c call e2 H q := by
 unfold stepV;unfold O.reads at h;simp only [List.mem_append] at h;cases hg : q.guard with
 | none => simp only [hg] at h ⊢; exact aOp_congr fun i hi => h i (.inr hi)
 | some p =>
   obtain ⟨g,want⟩ := p;simp only [hg] at h ⊢;rw [h g (.inl (by simp)),aOp_congr fun i hi => h i (.inr hi)]
theorem stepV_fp {env : Env} {H H' : Heap} {q : O} {v : AV} {fl : Fp} (h : stepV c call env H q = some (v,H',fl)) : FpOK fl H H' v (fun H2 => stepV c call env H2 q) := by
 unfold stepV at h ⊢;cases hg : q.guard with
 | none => simp only [hg] at h ⊢; exact aOp_fp h
 | some p =>
   obtain ⟨g,want⟩ := p;simp only [hg] at h ⊢;split at h
   ·split at h
    ·rename_i hbw; simp only [hbw,if_true]; exact aOp_fp h
    ·rename_i hbw; simp only [hbw,if_false]; simp at h; obtain ⟨rfl,rfl,rfl⟩ := h; exact .no fun _ => rfl
   ·simp at h; obtain ⟨rfl,rfl,rfl⟩ := h; exact .no fun _ => rfl
   ·cases h
theorem mem_iff {i : Nat} : ∀ {l : List Nat},mem i l = true ↔ i ∈ l
 | [] => by simp [mem]
 | j :: r => by
   unfold mem;split
   ·rename_i h; simp [h]
   ·rename_i h; rw [mem_iff]; simp [h]
theorem get_putd_ne {env : Env} {d : Option Nat} {v : AV} {i : Nat} (h : d ≠ some i) : get (putd env d v) i = get env i := by
 cases d with
 | none => rfl
 | some d => simp only [putd,get_put]; rw [if_neg fun e => h (by rw [e])]
theorem commute {env : Env} {H H1 H2 : Heap} {x y : O} {v1 v2 : AV} {f1 f2 : Fp} (hx : stepV c call env H x = some (v1,H1,f1)) (hy : stepV c call (putd env x.dst v1) H1 y = some (v2,H2,f2))
  (hap : apartO x y = true) (hf : f1.ok f2 = true) :
  ∃ H2',stepV c call env H y = some (v2,H2',f2) /\ stepV c call (putd env y.dst v2) H2' x = some (v1,H2,f1) /\ ∀ i,get (putd (putd env x.dst v1) y.dst v2) i = get (putd (putd env y.dst v2) x.dst v1) i := by
 have a1 : ∀ d,x.dst = some d -> d ∉ y.reads /\ y.dst ≠ some d := by
  intro d hd;simp only [apartO,hd,Bool.and_eq_true,Bool.not_eq_true',decide_eq_true_eq] at hap;refine ⟨fun h => ?_,hap.1.2⟩;have := mem_iff.2 h;rw [hap.1.1] at this;cases this
 have a2 : ∀ d,y.dst = some d -> d ∉ x.reads := by
  intro d hd h;simp only [apartO,hd,Bool.and_eq_true,Bool.not_eq_true'] at hap;have := mem_iff.2 h;rw [hap.2] at this;cases this
 have cy : ∀ Hq,stepV c call (putd env x.dst v1) Hq y = stepV c call env Hq y := fun Hq => stepV_congr fun i hi => get_putd_ne fun e => (a1 i e).1 hi;have cx : ∀ Hq,stepV c call (putd env y.dst v2) Hq x = stepV c call env Hq x := fun Hq => stepV_congr fun i hi => get_putd_ne fun e => a2 i e hi
 have he : ∀ i,get (putd (putd env x.dst v1) y.dst v2) i = get (putd (putd env y.dst v2) x.dst v1) i := by
  intro i;by_cases h1 : x.dst = some i
  ·have h2 := (a1 i h1).2;rw [get_putd_ne h2,h1];simp [putd,get_put]
  ·rw [get_putd_ne (env := putd env y.dst v2) h1];by_cases h2 : y.dst = some i
   ·rw [h2]; simp [putd,get_put]
   ·rw [get_putd_ne h2,get_putd_ne h2,get_putd_ne h1]
 rw [cy] at hy;obtain ⟨g0,g1,g2,g3⟩ := stepV_fp hx;obtain ⟨k0,k1,k2,k3⟩ := stepV_fp hy;have nm : ∀ {b : Nat} {bs : List Nat},mem b bs = false -> b ∉ bs := fun h hm => by rw [mem_iff.2 hm] at h; cases h
 cases f1 with
 | no =>
   obtain ⟨rfl,h0⟩ := g0 rfl;exact ⟨H2,hy,by rw [cx]; exact h0 H2,he⟩
 | rd b =>
   obtain ⟨rfl,h0⟩ := g1 b rfl;cases f2 with
   | no => obtain ⟨rfl,_⟩ := k0 rfl; exact ⟨_,hy,by rw [cx]; exact hx,he⟩
   | rd b' => obtain ⟨rfl,_⟩ := k1 b' rfl; exact ⟨_,hy,by rw [cx]; exact hx,he⟩
   | ra => obtain rfl := k2 rfl; exact ⟨_,hy,by rw [cx]; exact hx,he⟩
   | wr n bs =>
     simp only [Fp.ok,Bool.and_eq_true,decide_eq_true_eq,Bool.not_eq_true'] at hf;exact ⟨H2,hy,by rw [cx]; exact h0 H2 (k3 n bs rfl b hf.1 (nm hf.2)),he⟩
 | ra =>
   obtain rfl := g2 rfl;cases f2 with
   | no => obtain ⟨rfl,_⟩ := k0 rfl; exact ⟨_,hy,by rw [cx]; exact hx,he⟩
   | rd b' => obtain ⟨rfl,_⟩ := k1 b' rfl; exact ⟨_,hy,by rw [cx]; exact hx,he⟩
   | ra => obtain rfl := k2 rfl; exact ⟨_,hy,by rw [cx]; exact hx,he⟩
   | wr n bs => simp [Fp.ok] at hf
 | wr n bs =>
   cases f2 with
   | no => obtain ⟨rfl,h0⟩ := k0 rfl; exact ⟨H,h0 H,by rw [cx]; exact hx,he⟩
   | rd b =>
     obtain ⟨rfl,h0⟩ := k1 b rfl;simp only [Fp.ok,Bool.and_eq_true,decide_eq_true_eq,Bool.not_eq_true'] at hf;exact ⟨H,h0 H (g3 n bs rfl b hf.1 (nm hf.2)).symm,by rw [cx]; exact hx,he⟩
   | ra => simp [Fp.ok] at hf
   | wr n' bs' => simp [Fp.ok] at hf

abbrev Ent := Nat × Oper × O × Fp
def RunR (c : Cfg) (call : Nat -> List AV -> Heap -> Option (AV × Heap)) : List Ent -> Env -> Heap -> Env -> Heap -> Prop
 | [],e,H,e',H' => (∀ i,get e i = get e' i) /\ H = H'
 | p :: r,e,H,e',H' => ∃ v H1,stepV c call e H p.2.2.1 = some (v,H1,p.2.2.2) /\ RunR c call r (putd e p.2.2.1.dst v) H1 e' H'
theorem RunR.congr : ∀ {R : List Ent} {e1 e2 : Env} {H : Heap} {e' : Env} {H' : Heap},(∀ i,get e1 i = get e2 i) -> RunR c call R e1 H e' H' -> RunR c call R e2 H e' H'
 | [],e1,e2,H,e',H',h,hr => ⟨fun i => (h i).symm.trans (hr.1 i),hr.2⟩
 | p :: r,e1,e2,H,e',H',h,⟨v,H1,h1,h2⟩ => by
   refine ⟨v,H1,by rw [<- stepV_congr fun i _ => h i]; exact h1,RunR.congr (fun i => ?_) h2⟩;cases hd : p.2.2.1.dst with
   | none => exact h i
   | some d => simp only [putd,get_put]; rw [h i]
theorem RunR.bubble {x : Ent} : ∀ {R1 R2 : List Ent} {e : Env} {H : Heap} {e' : Env} {H' : Heap},(∀ p ∈ R1,apartO p.2.2.1 x.2.2.1 = true /\ p.2.2.2.ok x.2.2.2 = true) -> RunR c call (R1 ++ x :: R2) e H e' H' -> RunR c call (x :: (R1 ++ R2)) e H e' H'
 | [],R2,e,H,e',H',_,hr => hr
 | p :: R1,R2,e,H,e',H',h,⟨v,H1,h1,h2⟩ => by
   obtain ⟨v2,H2,h3,h4⟩ := RunR.bubble (fun q hq => h q (by simp [hq])) h2;obtain ⟨hap,hf⟩ := h p (by simp);obtain ⟨H2',k1,k2,k3⟩ := commute h1 h3 hap hf;exact ⟨v2,H2',k1,v,H2,k2,h4.congr k3⟩

inductive Anc (ops : Array Oper) (i : Nat) : Nat -> Prop
 | one {j : Nat} {o : Oper} (ho : ops[j]? = some o) (h : i ∈ direct o) : Anc ops i j
 | via {j k : Nat} {o : Oper} (ho : ops[j]? = some o) (h : k ∈ direct o) (ha : Anc ops i k) : Anc ops i j
theorem mem_direct {o : Oper} {i : Nat} : i ∈ direct o ↔ ∃ e ∈ o.after,Region.binds .any e = true /\ e.on = i := by
 unfold direct;simp only [List.mem_map,List.mem_filter,Array.mem_toList_iff];constructor
 ·rintro ⟨e,⟨h1,h2⟩,h3⟩; exact ⟨e,h1,h2,h3⟩
 ·rintro ⟨e,h1,h2,h3⟩; exact ⟨e,⟨h1,h2⟩,h3⟩
def Closed (ops : Array Oper) (listed : Array Bool) : Prop := ∀ j o,ops[j]? = some o -> listed.getD j false = true -> ∀ i ∈ direct o,listed.getD i false = true
theorem Closed.anc {ops : Array Oper} {listed : Array Bool} (h : Closed ops listed) {i j : Nat} (ha : Anc ops i j) : ∀ o,ops[j]? = some o -> (∀ k ∈ direct o,listed.getD k false = true) -> listed.getD i false = true := by
 induction ha with
 | one ho hm => intro o ho' hd; rw [ho] at ho'; cases ho'; exact hd _ hm
 | via ho hm ha ih =>
   intro o ho' hd;rw [ho] at ho';cases ho';have hk := hd _ hm;cases ha with
   | one ho2 hm2 => exact h _ _ ho2 hk _ hm2
   | via ho2 hm2 ha2 => exact ih _ ho2 fun l hl => h _ _ ho2 hk l hl
def AncOK (ops : Array Oper) (anc : List (List Nat)) : Prop := ∀ j l,anc[j]? = some l -> ∀ i ∈ l,Anc ops i j
theorem dedup_sub {i : Nat} : ∀ {l : List Nat},i ∈ dedup l -> i ∈ l
 | [],h => by simp [dedup] at h
 | x :: r,h => by
   unfold dedup at h;split at h
   ·exact List.mem_cons_of_mem _ (dedup_sub h)
   ·rcases List.mem_cons.1 h with h | h
    ·subst h; simp
    ·exact List.mem_cons_of_mem _ (dedup_sub h)
theorem ancOf_ok {ops : Array Oper} {anc : List (List Nat)} (h : AncOK ops anc) {j : Nat} {o : Oper} (ho : ops[j]? = some o) : ∀ i ∈ ancOf anc o,Anc ops i j := by
 intro i hi;unfold ancOf at hi;rcases List.mem_append.1 (dedup_sub hi) with hi | hi
 ·exact .one ho hi
 ·obtain ⟨k,hk,hik⟩ := List.mem_flatMap.1 hi;refine .via ho (dedup_sub hk) ?_;rw [List.getD_eq_getElem?_getD] at hik;cases hl : anc[k]? with
  | none => rw [hl] at hik; simp at hik
  | some l => rw [hl] at hik; exact h k l hl i hik
end
end Go.Am

/- A run of the compact code is a run of the dump's code; calls; the theorem that ties a call to the kit's 'Calls'. -/
namespace Go.Am
section
variable {P : Program} {c : Cfg}

def Ex.to : Ex -> Exit
 | .normal => .normal
 | .exit id => .exit id
 | .ret => .ret

def LW (P : Program) (cd : Code) (Q : Exit -> Act -> World -> Prop) (a : Act) (w : World) : Prop :=
 ∀ (b : Frame) (k : List Item) (cs : List Frame),∃ e a' w',Q e a' w' /\ Arrives P (lone (b.at a (.code cd :: .inLoop cd :: k)) cs w) b k cs e a' w'
theorem LW.loop {cd : Code} {Q : Exit -> Act -> World -> Prop} {a : Act} {w : World} (h : LW P cd Q a w) : (Code.loop cd).wp P Q a w := by
 intro b k cs;obtain ⟨e,a',w',hq,harr⟩ := h b k cs;exact ⟨e,a',w',hq,.of_steps (.one step_loop) harr⟩
theorem LW.step {cd : Code} {Q : Exit -> Act -> World -> Prop} {a : Act} {w : World} (h : cd.wp P (Exit.then (LW P cd Q) Q) a w) : LW P cd Q a w := by
 intro b k cs;obtain ⟨e,a1,w1,hq,harr⟩ := h b (.inLoop cd :: k) cs;cases e with
 | normal =>
   obtain ⟨e2,a2,w2,hq2,harr2⟩ := hq b k cs;exact ⟨e2,a2,w2,hq2,.of_steps (Steps.trans harr (.one step_inLoop)) harr2⟩
 | exit id => exact ⟨_,a1,w1,hq,.pass (x := .inLoop cd) rfl (fun _ _ => .inl (by simp)) harr⟩
 | goto l => exact ⟨_,a1,w1,hq,.pass (x := .inLoop cd) rfl (fun _ _ => .inl (by simp)) harr⟩
 | ret => exact ⟨_,a1,w1,hq,.pass (x := .inLoop cd) rfl (fun _ _ => .inl (by simp)) harr⟩
 | panic ch => exact ⟨_,a1,w1,hq,.pass (x := .inLoop cd) rfl (fun _ _ => .inl (by simp)) harr⟩
 | outgrown => exact ⟨_,a1,w1,hq,.pass (x := .inLoop cd) rfl (fun _ _ => .inl (by simp)) harr⟩

theorem get_mkEnv : ∀ (args : List AV) (k i : Nat),get (mkEnv k args) i = if k <= i then args[i - k]?.getD .any else .any
 | [],k,i => by simp [mkEnv,get]
 | x :: r,k,i => by
   simp only [mkEnv,get];by_cases h : i = k
   ·subst h; simp
   ·rw [if_neg h,get_mkEnv r (k + 1) i];by_cases h2 : k + 1 <= i
    ·rw [if_pos h2,if_pos (by omega),show i - k = (i - (k + 1)) + 1 by omega,List.getElem?_cons_succ]
    ·rw [if_neg h2,if_neg (by omega)]
theorem res_ok {X : Nat -> Prop} {φ : Phi} {w : World} {s : St} {ts : Array Value} (he : ERel X φ w s.env ts) (hh : HRel X φ w s.H) : ∀ {rs : List ResultVar} {qs : List Rv} {xs : List AV},chkRs P rs qs = true -> resL s.H s.env qs = some xs ->
  ∃ vs : List Value,(rs.mapM (m := Sem) fun
   | .tmp t => pure (ts.getD t undef)
   | .cell a t => do loadVar t (<- asAddr (ts.getD a undef))).run P w = .ok vs w /\ Cs X φ w xs vs
 | [],[],xs,_,h => by simp [resL] at h; subst h; exact ⟨[],rfl,rfl,fun i c v hc => by simp at hc⟩
 | [],_ :: _,_,h,_ => by simp [chkRs] at h
 | _ :: _,[],_,h,_ => by simp [chkRs] at h
 | r :: rs,q :: qs,xs,h,hx => by
   simp only [chkRs,Bool.and_eq_true] at h;simp only [resL] at hx;split at hx
   case h_2 => cases hx
   rename_i x ys h1 h2;simp at hx;subst hx;obtain ⟨vs,e1,e2⟩ := res_ok he hh h.2 h2
   have one : ∃ v,(match r with
    | .tmp t => pure (ts.getD t undef)
    | .cell a t => do loadVar t (<- asAddr (ts.getD a undef)) : Sem Value).run P w = .ok v w /\ Rep (Rd X φ w) φ x v := by
    have hr := h.1;unfold chkR at hr;split at hr
    ·rename_i t i;simp at hr;subst hr;simp [resA] at h1;subst h1;exact ⟨_,rfl,he _⟩
    ·rename_i a t i ag;simp only [Bool.and_eq_true,decide_eq_true_eq] at hr;obtain ⟨rfl,hag⟩ := hr;have r := he a;simp only [resA] at h1;split at h1
     ·rename_i b off hg;split at h1
      case h_2 => cases h1
      rename_i cs hcs;rw [hg] at r;obtain ⟨g,sz,arr,e,h3,_,_,_,_,_,_,h4⟩ := Plc.of_ptr hh hcs r;obtain ⟨u,h5,h6⟩ := load_ok hag h1 h4;exact ⟨u,by simp [h3,asAddr,h5],h6⟩
     ·rename_i cs hg;rw [hg] at r;obtain ⟨ad,h3,h4⟩ := Plc.of_fptr r;obtain ⟨u,h5,h6⟩ := load_ok hag h1 h4;exact ⟨u,by simp [h3,asAddr,h5],h6⟩
     ·cases h1
    ·cases hr
   obtain ⟨v,e3,e4⟩ := one;refine ⟨v :: vs,?_,by simp [e2.1],fun i c u hc hu => ?_⟩
   ·simp only [List.mapM_cons,Sem.run_bind,Sem.run_pure];rw [e3];simp only [Result.andThen_ok];rw [e1];simp only [Result.andThen_ok]
   ·cases i with
    | zero => simp at hc hu; subst hc; subst hu; exact e4
    | succ i => simp at hc hu; exact e2.2 i c u hc hu
theorem run_results {X : Nat -> Prop} {φ : Phi} {w : World} {s : St} {ts : Array Value} {fn : Func} {qs : List Rv} {xs : List AV} (he : ERel X φ w s.env ts) (hh : HRel X φ w s.H) (hc : chkRs P fn.results.toList qs = true) (hx : resL s.H s.env qs = some xs) :
  ∃ v,(results fn ts).run P w = .ok v w /\ Rep (Rd X φ w) φ (tupOf xs) v := by
 obtain ⟨vs,h1,h2⟩ := res_ok (P := P) he hh hc hx
 have h3 : (fn.results.mapM (m := Sem) fun
   | .tmp t => pure (ts.getD t undef)
   | .cell a t => do loadVar t (<- asAddr (ts.getD a undef))).run P w = .ok vs.toArray w := by
  rw [<- Array.toArray_toList (xs := fn.results),List.mapM_toArray];simp only [Sem.run_map];rw [h1];simp only [Result.andThen_ok]
 have h4 : (results fn ts).run P w = (Result.ok vs.toArray w).andThen (fun (a : Array Value) w' => (pure (if h : a.size = 1 then a[0] else .tuple a) : Sem Value).run P w') := by
  unfold results;simp only [Sem.run_bind];exact congrArg (fun z => Result.andThen z _) h3
 rw [h4];simp only [Result.andThen_ok,Sem.run_pure];refine ⟨_,rfl,?_⟩;obtain ⟨hl,hr⟩ := h2
 match xs,vs,hl,hr with
 | [],[],_,_ => exact .tup _ _ _ rfl fun i c v hc => by simp at hc
 | [x],[v],_,hr => exact hr 0 x v rfl rfl
 | x :: y :: xs,v :: u :: vs,hl,hr =>
   have e : ¬ ((v :: u :: vs).toArray.size = 1) := by simp
   rw [dif_neg e];exact .tup _ _ _ (by simpa using hl) fun i c z hc hz => hr i c z hc (by simpa using hz)

end
end Go.Am
