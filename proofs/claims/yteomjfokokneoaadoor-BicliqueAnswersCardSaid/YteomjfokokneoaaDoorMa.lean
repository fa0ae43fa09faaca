/- An abstract machine, and its soundness against the model. -/
import Derived.WalkKit
import Derived.Laws.StructEq
import Derived.Laws.MakeOwn
import Derived.Scope
set_option linter.unusedVariables false
/- The abstract machine: values by value, a small heap of own blocks, and an interpreter with fuel for the compact code. -/
open Array renaming getD_eq_getD_getElem? → aY, getElem?_append_left → qm, getElem?_eq_getElem → G3, getElem?_eq_some_iff → dx, getElem?_push → Qp, getElem?_toList → jh, length_toList → om, map → Cm, mem_toList_iff → Oz, range → wj, size_append → Vo, toArray_toList → wi, toList_inj → gd
open Bool renaming and_eq_true → ab, false_eq_true → aX, not_eq_true' → bt
open List renaming append_assoc → du, eq_nil_of_length_eq_zero → eI, ext_getElem? → cY, getElem?_append_left → av, getElem?_append_right → aQ, getElem?_cons_succ → jb, getElem?_drop → aV, getElem?_map → df, getElem?_of_mem → bD, getElem?_set → bj, getElem?_set_ne → jR, getElem?_take → bF, getElem?_take_of_lt → aR, getElem?_toArray → vq, length_append → bu, length_cons → c8, length_drop → cB, length_take → bg, map_cons → iY, mem_append → aD, mem_cons → aJ, mem_cons_of_mem → yb, size_toArray → qF
open Nat renaming add_mul → bV, add_zero → GJ, le_refl → aS, le_trans → Ov, lt_of_lt_of_le → gQ, mul_le_mul → Db, mul_le_mul_right → bG
open Option renaming isSome_iff_exists → aW, map_none → CJ
open Option.some renaming injEq → aj
open Prod.mk renaming injEq → aF
namespace Go.Am

inductive Rt where
 | s (i : Nat) | sc (i j : Nat) | c (b j : Nat)
 deriving DecidableEq,Inhabited
inductive AV where
 | any | undef | fi | eV | dc
 | int (k : IntKind) (n : Int)
 | bool (b : Bool)
 | str (s : ByteArray)
 | agg (cs : List AV)
 | dW (vs : List AV)
 | list (k : Nat) (xs : List AV)
 | cX (cs : List AV)
 | ptr (b off : Nat)
 | sl (k b off len : Nat)
 | func (fn : Fn) (first b7 : List AV)
 | own (k : Nat) (xs : List AV)
 | dp (k : Nat) (p : Rt) (off len : Nat)
 | eK (k : Nat) (p : Rt) (i off : Nat)
 deriving Inhabited

abbrev Ql := Option (List AV)
abbrev Heap := List Ql
abbrev Env := List (Nat × AV)

def lz : Nat := 4294967296

def get : Env -> Nat -> AV
 | [],_ => .any
 | (j,u) :: r,i => if i = j then u else get r i
def put : Env -> Nat -> AV -> Env
 | [],i,v => [(i,v)]
 | (j,u) :: r,i,v => if i < j then (i,v) :: (j,u) :: r else if i = j then (i,v) :: r else (j,u) :: put r i v
def mem : Nat -> List Nat -> Bool
 | _,[] => false
 | i,j :: r => if i = j then true else mem i r
def pw (keep : List Nat) : Env -> Env
 | [] => []
 | (j,u) :: r => if mem j keep then (j,u) :: pw keep r else pw keep r
def rI (env : Env) (d : Option Nat) (v : AV) : Env :=
 match d with
 | some d => put env d v
 | none => env
def dH : Nat -> List AV -> Env
 | _,[] => []
 | i,a :: r => (i,a) :: dH (i + 1) r

def AV.cells : AV -> List AV
 | .agg cs => cs
 | x => [x]
def AV.leaf : AV -> Bool
 | .any | .undef | .agg _ | .dW _ => false
 | _ => true
def bm : List AV -> Bool
 | [] => true
 | x :: r => x.leaf && bm r

mutual
def AV.plain : AV -> Bool
 | .ptr _ _ | .sl _ _ _ _ => false
 | .agg cs => qy cs
 | .dW cs => qy cs
 | .func _ a b => qy a && qy b
 | _ => true
def qy : List AV -> Bool
 | [] => true
 | x :: r => x.plain && qy r
end
mutual
def AV.flat : AV -> Bool
 | .ptr _ _ | .sl _ _ _ _ | .list _ _ | .cX _ => false
 | .agg cs => FG cs
 | .dW cs => FG cs
 | .func _ a b => FG a && FG b
 | _ => true
def FG : List AV -> Bool
 | [] => true
 | x :: r => x.flat && FG r
end
mutual
def AV.ur (n : Nat) : AV -> Bool
 | .ptr b _ => decide (b < n)
 | .sl _ b _ _ => decide (b < n)
 | .agg cs => oa n cs
 | .dW cs => oa n cs
 | .func _ a b => oa n a && oa n b
 | _ => true
def oa (n : Nat) : List AV -> Bool
 | [] => true
 | x :: r => x.ur n && oa n r
end
def xM (n : Nat) : Heap -> Bool
 | [] => true
 | none :: r => xM n r
 | some cs :: r => oa n cs && xM n r

def aH (H : Heap) (b : Nat) : Option (List AV) :=
 match H[b]? with
 | some (some cs) => some cs
 | _ => none
def el : List AV -> AV
 | [.agg cs] => .agg [.agg cs]
 | [x] => x
 | cs => .agg cs
def Oq (k : Nat) : Nat -> List AV -> List AV
 | 0,_ => []
 | n + 1,cs => el (cs.take k) :: Oq k n (cs.drop k)
def AR (f : AV -> Option (AV × List Nat)) : List AV -> Option (List AV × List Nat)
 | [] => some ([],[])
 | x :: r => match f x,AR f r with
   | some (y,b),some (ys,bs) => some (y :: ys,b ++ bs)
   | _,_ => none
def Bk (H : Heap) : Nat -> AV -> Option (AV × List Nat)
 | 0,_ => none
 | n + 1,x => match x with
   | .ptr b off => match aH H b with
     | some cs => match AR (Bk H n) (cs.drop off) with
       | some (ys,bs) => some (.cX ys,b :: bs)
       | none => none
     | none => none
   | .sl k b off len => match aH H b with
     | some cs => if off + len * k <= cs.length then
       match AR (Bk H n) ((cs.drop off).take (len * k)) with
       | some (ys,bs) => some (.list k (Oq k len ys),b :: bs)
       | none => none
       else none
     | none => none
   | .agg cs => match AR (Bk H n) cs with
     | some (ys,bs) => some (.agg ys,bs)
     | none => none
   | .dW cs => match AR (Bk H n) cs with
     | some (ys,bs) => some (.dW ys,bs)
     | none => none
   | .func f a c => match AR (Bk H n) a,AR (Bk H n) c with
     | some (ys,bs),some (zs,cs) => some (.func f ys zs,bs ++ cs)
     | _,_ => none
   | x => some (x,[])
def Tr (n : Nat) : List Nat -> Bool
 | [] => true
 | b :: r => decide (n <= b) && Tr n r
def kill : Heap -> List Nat -> Heap
 | H,[] => H
 | H,b :: r => kill (H.set b none) r
def Qh : Nat := 8

inductive E where
 | t (i : Nat) | k (x : AV) | g (i : Nat)
 deriving Inhabited

inductive Et where
 | bool | str (ints : List Bool) | Pj | EZ | nfn
 deriving Inhabited

inductive Kd where
 | mv (x : E) | pick (c a b : E)
 | new (zs : List AV) | box (x : E)
 | build (zs : List AV) (parts : List (Nat × Nat × E))
 | dh (k n : Nat) (zs : List AV) (parts : List (Nat × Nat × E))
 | ld (ag : Option Nat) (x : E) | st (k : Nat) (a v : E)
 | kP (x : E)
 | bin (op : BinOp) (x y : E) | eq (neg : Bool) (t : Et) (x y : E) | un (op : UnOp) (x : E) | S7 (k : IntKind) (x : E)
 | GC (fn : Fn) (first b7 : List E)
 | MA (k : Nat) (zs : List AV) (len cap : E)
 | Av (k : Nat) (x : E) (lo hi : Option E)
 | dt (off : Nat) (x : E) | I8 (n : Nat) (x : E) (hi : Option E) | UW (off : Nat) (ag : Option Nat) (x : E)
 | gq (k : Nat) (x i : E) | SJ (n k : Nat) (x i : E) | ix (n k : Nat) (ag : Option Nat) (x i : E)
 | ext (i : Nat) (x : E)
 | call (f : Nat) (args : List E) | gw (x : E) (args : List E)
 | Ux (tab : List Nat) (i : E) | Td (k : Nat) (zs : List AV) (x : E)
 | len (x : E) | app (k : Nat) (x y : E) | min (xs : List E) | max (xs : List E) | copy (k : Nat) (x y : E)
 | bad
 deriving Inhabited

structure O where
 dst : Option Nat
 guard : Option (Nat × Bool)
 kd : Kd
 deriving Inhabited

def E.slot : E -> List Nat
 | .t i => [i]
 | _ => []
def lk : List E -> List Nat
 | [] => []
 | x :: r => x.slot ++ lk r
def oU : List (Nat × Nat × E) -> List Nat
 | [] => []
 | p :: r => p.2.2.slot ++ oU r
def Hf : Option E -> List Nat
 | some x => x.slot
 | none => []
def Kd.reads : Kd -> List Nat
 | .mv x | .box x | .ld _ x | .kP x | .un _ x | .S7 _ x | .dt _ x | .UW _ _ x | .ext _ x | .len x => x.slot
 | .pick c a b => c.slot ++ (a.slot ++ b.slot)
 | .new _ => []
 | .bad => []
 | .Ux _ i => i.slot
 | .Td _ _ x => x.slot
 | .build _ ps | .dh _ _ _ ps => oU ps
 | .st _ x y | .bin _ x y | .eq _ _ x y | .MA _ _ x y | .gq _ x y | .SJ _ _ x y | .ix _ _ _ x y | .app _ x y | .copy _ x y => x.slot ++ y.slot
 | .GC _ a b => lk a ++ lk b
 | .Av _ x lo hi => x.slot ++ (Hf lo ++ Hf hi)
 | .I8 _ x hi => x.slot ++ Hf hi
 | .call _ xs | .min xs | .max xs => lk xs
 | .gw x xs => x.slot ++ lk xs
def Kd.pure : Kd -> Bool
 | .mv _ | .pick _ _ _ | .build _ _ | .kP _ | .bin _ _ _ | .eq _ _ _ _ | .un _ _ | .S7 _ _ | .GC _ _ _ | .Av _ _ _ _ | .dt _ _ | .UW _ _ _ | .gq _ _ _ | .SJ _ _ _ _ | .ix _ _ _ _ _ | .ext _ _ | .Ux _ _ | .len _ | .min _ | .max _ => true
 | _ => false
def O.reads (o : O) : List Nat := (match o.guard with
 | some (g,_) => [g]
 | none => []) ++ o.kd.reads

inductive Fp where
 | no | rd (b : Nat) | ra | wr (n : Nat) (bs : List Nat)
 deriving Inhabited
def Fp.ok : Fp -> Fp -> Bool
 | .no,_ => true
 | _,.no => true
 | .rd _,.rd _ => true
 | .rd _,.ra => true
 | .ra,.rd _ => true
 | .ra,.ra => true
 | .rd b,.wr n bs => decide (b < n) && !mem b bs
 | .wr n bs,.rd b => decide (b < n) && !mem b bs
 | _,_ => false

inductive C where
 | skip | ret | exit (id : Nat)
 | aO (os : List O) (dr : Bool) (un : List (Nat × Nat)) (keep : List Nat)
 | seq (a b : C) | cond (c : E) (a b : C) | aH (id : Nat) (b : C) | loop (b : C)
 deriving Inhabited

inductive Md where | P | T | K
 deriving Inhabited
inductive Rv where | t (i : Nat) | c (i : Nat) (ag : Option Nat)
 deriving Inhabited
structure fO where
 n : Nat
 np : Nat
 res : List Rv
 body : C
 deriving Inhabited
structure dN where
 fn : Nat -> Option (Md × fO)
 gl : Nat -> List AV
 orc : Nat -> Option (List AV -> Heap -> Option (AV × Heap))

inductive Ex where | normal | exit (id : Nat) | ret
 deriving Inhabited
structure St where
 env : Env
 H : Heap
 deriving Inhabited

def ev (c : dN) (env : Env) : E -> AV
 | .t i => get env i
 | .k x => x
 | .g i => .cX (c.gl i)
def C6 (c : dN) (env : Env) : List E -> List AV
 | [] => []
 | x :: r => ev c env x :: C6 c env r

def AE (ag : Option Nat) (cs : List AV) : Option AV :=
 match ag with
 | some k => if k <= cs.length then some (.agg (cs.take k)) else none
 | none => cs.head?
def jf (cs : List AV) (off : Nat) (vs : List AV) : List AV := cs.take off ++ vs ++ cs.drop (off + vs.length)
def idx (x : AV) (len : Nat) : Option Nat :=
 match x with
 | .int _ i => if 0 <= i /\ i < (len : Int) then some i.toNat else none
 | _ => none
def bnd (x : AV) (hi : Nat) : Option Nat :=
 match x with
 | .int _ i => if 0 <= i /\ i <= (hi : Int) then some i.toNat else none
 | _ => none
def Ac (c : dN) (env : Env) (dflt hi : Nat) : Option E -> Option Nat
 | none => some dflt
 | some x => bnd (ev c env x) hi
def nv (c : dN) (env : Env) : List AV -> List (Nat × Nat × E) -> Option (List AV)
 | zs,[] => some zs
 | zs,(off,sz,x) :: r =>
   if (ev c env x).cells.length = sz /\ off + sz <= zs.length /\ bm (ev c env x).cells = true then nv c env (jf zs off (ev c env x).cells) r else none

def arith (op : BinOp) (k : IntKind) (x y : Int) : Option AV :=
 match op with
 | .add => some (.int k (k.wrap (x + y)))
 | .sub => some (.int k (k.wrap (x - y)))
 | .mul => some (.int k (k.wrap (x * y)))
 | .quo => if y = 0 then none else some (.int k (k.wrap (x.tdiv y)))
 | .rem => if y = 0 then none else some (.int k (x.tmod y))
 | .and => some (.int k (bits .and k x y))
 | .or => some (.int k (bits .or k x y))
 | .xor => some (.int k (bits .xor k x y))
 | .andNot => some (.int k (bits .andNot k x y))
 | .eql => some (.bool (x == y))
 | .neq => some (.bool (x != y))
 | .lss => some (.bool (decide (x < y)))
 | .leq => some (.bool (decide (x <= y)))
 | .gtr => some (.bool (decide (y < x)))
 | .geq => some (.bool (decide (y <= x)))
 | _ => none
def zW : List Bool -> List AV -> List AV -> Option Bool
 | [],[],[] => some true
 | true :: l,.int k a :: r,.int k' b :: s => if k = k' then match zW l r s with
   | some e => some (a == b && e)
   | none => none
   else none
 | false :: l,.bool a :: r,.bool b :: s => match zW l r s with
   | some e => some (a == b && e)
   | none => none
 | _,_,_ => none
def isNil : Et -> AV -> Option Bool
 | .Pj,.dc => some true
 | .Pj,.sl _ _ _ _ => some false
 | .Pj,.list _ (_ :: _) => some false
 | .EZ,.fi => some true
 | .EZ,.ptr _ _ => some false
 | .EZ,.cX _ => some false
 | .nfn,.eV => some true
 | .nfn,.func _ _ _ => some false
 | _,_ => none
def UY : Et -> AV -> AV -> Option Bool
 | .bool,.bool a,.bool b => some (a == b)
 | .str l,.agg xs,.agg ys => zW l xs ys
 | .Pj,x,.dc => isNil .Pj x
 | .EZ,x,.fi => isNil .EZ x
 | .nfn,x,.eV => isNil .nfn x
 | _,_,_ => none
def jq (op : BinOp) (x y : AV) : Option AV :=
 match x,y with
 | .int k a,.int k' b => match op with
   | .shl => if b < 0 then none else some (.int k (k.wrap (a * 2 ^ (min b.toNat k.bits))))
   | .shr => if b < 0 then none else some (.int k (a.fdiv (2 ^ (min b.toNat k.bits))))
   | op => if k = k' then arith op k a b else none
 | _,_ => none
def OC (op : UnOp) (x : AV) : Option AV :=
 match op,x with
 | .neg,.int k n => some (.int k (k.wrap (0 - n)))
 | .xor,.int k n => some (.int k (bits .xor k (if k.signed then -1 else k.max) n))
 | .not,.bool b => some (.bool (!b))
 | _,_ => none
def aE : List AV -> List AV
 | [] => []
 | x :: r => x.cells ++ aE r
def iC (H : Heap) (k : Nat) : AV -> Option (List AV × Nat)
 | .dc => some ([],0)
 | .list k' xs => if k' = k then some (aE xs,xs.length) else none
 | .sl k' b off len => match aH H b with
   | some cs => if k' = k /\ off + len * k <= cs.length then some ((cs.drop off).take (len * k),len) else none
   | none => none
 | _ => none
def Xp : AV -> Option Nat
 | .dc => some 0
 | .list _ xs => some xs.length
 | .sl _ _ _ len => some len
 | _ => none
def zE (mx : Bool) : AV -> List AV -> Option AV
 | x,[] => some x
 | .int k a,.int _ b :: r => zE mx (.int k (if mx then (if b > a then b else a) else (if b < a then b else a))) r
 | _,_ => none
def xH (mx : Bool) : List AV -> Option AV
 | .int k a :: r => zE mx (.int k a) r
 | _ => none
def rep (zs : List AV) : Nat -> List AV
 | 0 => []
 | n + 1 => zs ++ rep zs n

def uX (c : dN) (call : Nat -> List AV -> Heap -> Option (AV × Heap)) (f : Nat) (args : List AV) (H : Heap) : Option (AV × Heap × Fp) :=
 match c.fn f with
 | none => none
 | some (.K,_) => match call f args H with
   | some (r,H') => some (r,H',.wr 0 [])
   | none => none
 | some (.T,_) => match call f args H with
   | some (r,H') => match Bk H' Qh r with
     | some (r',bs) => if H.length <= H'.length /\ Tr H.length bs = true /\ xM H.length (H'.take H.length) = true then some (r',H'.take H.length,.wr 0 []) else none
     | none => none
   | none => none
 | some (.P,_) => if qy args then
   match call f args [] with
   | some (r,H') => match Bk H' Qh r with
     | some (r',_) => some (r',H,.no)
     | none => none
   | none => none
   else match AR (Bk H Qh) args with
    | some (ql,bs) => match call f ql [] with
      | some (r,H') => match Bk H' Qh r with
        | some (r',_) => if r'.flat then some (r',H,.ra) else some (r',kill H bs,.wr 0 [])
        | none => none
      | none => none
    | none => none

def fG (c : dN) (call : Nat -> List AV -> Heap -> Option (AV × Heap)) (env : Env) (H : Heap) : Kd -> Option (AV × Heap × Fp)
 | .mv x => some (ev c env x,H,.no)
 | .pick t a b => match ev c env t with
   | .bool t => some (if t then ev c env a else ev c env b,H,.no)
   | _ => none
 | .new zs => some (.ptr H.length 0,H ++ [some zs],.wr H.length [])
 | .box x => if bm (ev c env x).cells then some (.ptr H.length 0,H ++ [some (ev c env x).cells],.wr H.length []) else none
 | .build zs ps => match nv c env zs ps with
   | some cs => some (.agg cs,H,.no)
   | none => none
 | .dh k n zs ps => match nv c env (rep zs n) ps with
   | some cs => if bm cs then some (.sl k H.length 0 n,H ++ [some cs],.wr H.length []) else none
   | none => none
 | .ld ag x => match ev c env x with
   | .cX cs => match AE ag cs with
     | some v => some (v,H,.no)
     | none => none
   | .ptr b off => match aH H b with
     | some cs => match AE ag (cs.drop off) with
       | some v => some (v,H,.rd b)
       | none => none
     | none => none
   | _ => none
 | .st k a v => match ev c env a with
   | .ptr b off => match aH H b with
     | some cs => if (ev c env v).cells.length = k /\ off + k <= cs.length /\ bm (ev c env v).cells = true then
       some (.undef,H.set b (some (jf cs off (ev c env v).cells)),.wr H.length [b]) else none
     | none => none
   | _ => none
 | .kP x => match ev c env x with
   | .ptr b off => some (.ptr b off,H,.no)
   | .cX cs => some (.cX cs,H,.no)
   | .func (.func f) a b => some (.func (.func f) a b,H,.no)
   | _ => none
 | .bin op x y => match jq op (ev c env x) (ev c env y) with
   | some v => some (v,H,.no)
   | none => none
 | .eq ng t x y => match UY t (ev c env x) (ev c env y) with
   | some e => some (.bool (if ng then !e else e),H,.no)
   | none => none
 | .un op x => match OC op (ev c env x) with
   | some v => some (v,H,.no)
   | none => none
 | .S7 k x => match ev c env x with
   | .int _ n => some (.int k (k.wrap n),H,.no)
   | _ => none
 | .GC fn a b => some (.func fn (C6 c env a) (C6 c env b),H,.no)
 | .MA k zs l cp => match ev c env l,ev c env cp with
   | .int _ l,.int _ cp => if 0 <= l /\ l <= cp /\ cp <= (lz : Int) then some (.sl k H.length 0 l.toNat,H ++ [some (rep zs l.toNat)],.wr H.length []) else none
   | _,_ => none
 | .Av k x lo hi => match Xp (ev c env x) with
   | some n => match Ac c env n n hi with
     | some h => match Ac c env 0 h lo with
       | some l => match ev c env x with
         | .dc => some (.dc,H,.no)
         | .list k' xs => if k' = k then some (.list k ((xs.take h).drop l),H,.no) else none
         | .sl k' b off _ => if k' = k then some (.sl k b (off + l * k) (h - l),H,.no) else none
         | _ => none
       | none => none
     | none => none
   | none => none
 | .dt off x => match ev c env x with
   | .ptr b o => some (.ptr b (o + off),H,.no)
   | .cX cs => some (.cX (cs.drop off),H,.no)
   | _ => none
 | .I8 n x hi => match Ac c env n n hi with
   | some m => match ev c env x with
     | .cX cs => if n <= cs.length /\ m = n /\ bm (cs.take n) = true then some (.list 1 (cs.take n),H,.no) else none
     | .ptr b off => match aH H b with
       | some cs => if off + n <= cs.length then some (.sl 1 b off m,H,.rd b) else none
       | none => none
     | _ => none
   | none => none
 | .UW off ag x => match ev c env x with
   | .agg cs => match AE ag (cs.drop off) with
     | some v => some (v,H,.no)
     | none => none
   | _ => none
 | .gq k x i => match ev c env x with
   | .list k' xs => match idx (ev c env i) xs.length with
     | some j => if k' = k then match xs[j]? with
       | some v => some (.cX v.cells,H,.no)
       | none => none
       else none
     | none => none
   | .sl k' b off len => match idx (ev c env i) len with
     | some j => if k' = k then some (.ptr b (off + j * k),H,.no) else none
     | none => none
   | _ => none
 | .SJ n k x i => match idx (ev c env i) n with
   | some j => match ev c env x with
     | .ptr b off => some (.ptr b (off + j * k),H,.no)
     | .cX cs => some (.cX (cs.drop (j * k)),H,.no)
     | _ => none
   | none => none
 | .ix n k ag x i => match idx (ev c env i) n with
   | some j => match ev c env x with
     | .agg cs => match AE ag (cs.drop (j * k)) with
       | some v => some (v,H,.no)
       | none => none
     | _ => none
   | none => none
 | .Ux tab i => match idx (ev c env i) tab.length with
   | some j => match tab[j]? with
     | some v => some (.int .u8 v,H,.no)
     | none => none
   | none => none
 | .Td k zs x => match ev c env x with
   | .dc => some (.undef,H,.wr H.length [])
   | .list _ [] => some (.undef,H,.wr H.length [])
   | .sl k' b off len => if len = 0 then some (.undef,H,.wr H.length []) else match aH H b with
     | some cs => if k' = k /\ off + len * k <= cs.length then some (.undef,H.set b (some (jf cs off (rep zs len))),.wr H.length [b]) else none
     | none => none
   | _ => none
 | .ext i x => match ev c env x with
   | .dW vs => match vs[i]? with
     | some v => some (v,H,.no)
     | none => none
   | _ => none
 | .call f args => uX c call f (C6 c env args) H
 | .gw x args => match ev c env x with
   | .func (.func f) a b => uX c call f (a ++ C6 c env args ++ b) H
   | _ => none
 | .len x => match Xp (ev c env x) with
   | some n => some (.int .i64 n,H,.no)
   | none => none
 | .app k x y => match iC H k (ev c env y) with
   | some (news,m) => match ev c env x with
     | .dc => if m = 0 then some (.dc,H,.wr H.length []) else if m <= lz /\ bm news = true then some (.sl k H.length 0 m,H ++ [some news],.wr H.length []) else none
     | .sl k' b 0 n => match aH H b with
       | some cs => if k' = k /\ n * k <= cs.length /\ n + m <= lz /\ bm news = true then some (.sl k H.length 0 (n + m),H.set b none ++ [some (cs.take (n * k) ++ news)],.wr H.length [b]) else none
       | none => none
     | _ => none
   | none => none
 | .min xs => match xH false (C6 c env xs) with
   | some v => some (v,H,.no)
   | none => none
 | .max xs => match xH true (C6 c env xs) with
   | some v => some (v,H,.no)
   | none => none
 | .copy k x y => match iC H k (ev c env y) with
   | some (news,m) => match ev c env x with
     | .dc => some (.int .i64 0,H,.wr H.length [])
     | .sl k' b off n => match aH H b with
       | some cs => if k' = k /\ off + n * k <= cs.length /\ bm news = true then some (.int .i64 (min m n : Nat),H.set b (some (jf cs off (news.take (min m n * k)))),.wr H.length [b]) else none
       | none => none
     | _ => none
   | none => none
 | .bad => none

def V8 (H : Heap) (env : Env) : Rv -> Option AV
 | .t i => some (get env i)
 | .c i ag => match get env i with
   | .ptr b off => match aH H b with
     | some cs => AE ag (cs.drop off)
     | none => none
   | .cX cs => AE ag cs
   | _ => none
def KM (H : Heap) (env : Env) : List Rv -> Option (List AV)
 | [] => some []
 | r :: rs => match V8 H env r,KM H env rs with
   | some v,some vs => some (v :: vs)
   | _,_ => none
def m7 : List AV -> AV
 | [x] => x
 | vs => .dW vs

end Go.Am

/- How abstract values stand for values of the model in a world. -/
namespace Go.Am

abbrev de := List (Option (Nat × Nat))
def bK (φ : de) (g : Nat) : Prop := ∃ b sz : Nat,φ[b]? = some (some (g,sz))
def Rd (X : Nat -> Prop) (φ : de) (w : World) (a : Addr) (u : Value) : Prop := ¬ X a.block /\ ¬ bK φ a.block /\ w.cell? a = some u

inductive bN (R : Addr -> Value -> Prop) : de -> AV -> Value -> Prop
 | any (φ : de) (v : Value) : bN R φ .any v
 | undef (φ : de) : bN R φ .undef (.tuple #[])
 | fi (φ : de) : bN R φ .fi (.pointer none)
 | eV (φ : de) : bN R φ .eV .nilFunc
 | dc (φ : de) : bN R φ .dc (.slice none 0 0)
 | int (φ : de) (k : IntKind) (n : Int) : bN R φ (.int k n) (.int k n)
 | bool (φ : de) (b : Bool) : bN R φ (.bool b) (.bool b)
 | str (φ : de) (s : ByteArray) : bN R φ (.str s) (.string s)
 | agg (φ : de) (cs : List AV) (vs : Array Value) (hl : cs.length = vs.size) (h : ∀ (i : Nat) (c : AV) (v : Value),cs[i]? = some c -> vs[i]? = some v -> bN R φ c v) : bN R φ (.agg cs) (.agg vs)
 | dW (φ : de) (cs : List AV) (vs : Array Value) (hl : cs.length = vs.size) (h : ∀ (i : Nat) (c : AV) (v : Value),cs[i]? = some c -> vs[i]? = some v -> bN R φ c v) : bN R φ (.dW cs) (.tuple vs)
 | func (φ : de) (f : Fn) (as : List AV) (va : Array Value) (bs : List AV) (vb : Array Value) (B6 : as.length = va.size) (B5 : bs.length = vb.size)
   (ha : ∀ (i : Nat) (c : AV) (v : Value),as[i]? = some c -> va[i]? = some v -> bN R φ c v) (hb : ∀ (i : Nat) (c : AV) (v : Value),bs[i]? = some c -> vb[i]? = some v -> bN R φ c v) : bN R φ (.func f as bs) (.func f va vb)
 | tS (φ : de) (k : Nat) (xs : List AV) (a : Addr) (n cap : Nat) (u : Nat -> Nat -> Value) (hn : n = xs.length) (iZ : n <= cap) (hk : ∀ x ∈ xs,x.cells.length = k)
   (hu : ∀ (i j : Nat) (x c : AV),xs[i]? = some x -> x.cells[j]? = some c -> R (a.add (i * k + j)) (u i j))
   (h : ∀ (i j : Nat) (x c : AV),xs[i]? = some x -> x.cells[j]? = some c -> bN R [] c (u i j)) : bN R φ (.list k xs) (.slice (some a) n cap)
 | jM (φ : de) (k : Nat) : bN R φ (.list k []) (.slice none 0 0)
 | cX (φ : de) (cs : List AV) (a : Addr) (u : Nat -> Value) (hu : ∀ (j : Nat) (c : AV),cs[j]? = some c -> R (a.add j) (u j))
   (h : ∀ (j : Nat) (c : AV),cs[j]? = some c -> bN R [] c (u j)) : bN R φ (.cX cs) (.pointer (some a))
 | ptr (φ : de) (b off : Nat) (a : Addr) (hb : b < φ.length) (h : ∀ g sz : Nat,φ[b]? = some (some (g,sz)) -> a = ⟨g,off,none⟩) : bN R φ (.ptr b off) (.pointer (some a))
 | sl (φ : de) (k b off len : Nat) (a : Addr) (cap : Nat) (hb : b < φ.length) (hc : len <= cap)
   (h : ∀ g sz : Nat,φ[b]? = some (some (g,sz)) -> (0 < cap -> a = ⟨g,off,none⟩) /\ off + cap * k <= sz) : bN R φ (.sl k b off len) (.slice (some a) len cap)

theorem bc {α : Type} {l : List α} {i : Nat} (h : i < l.length) : ∃ x,l[i]? = some x := ⟨l[i],List.getElem?_eq_getElem h⟩
theorem cP {α : Type} {l : Array α} {i : Nat} (h : i < l.size) : ∃ x,l[i]? = some x := ⟨l[i],G3 h⟩
theorem aB {α : Type} {l : List α} {i : Nat} {x : α} (h : l[i]? = some x) : i < l.length := (List.getElem?_eq_some_iff.1 h).1
theorem j8 {α : Type} {l : Array α} {i : Nat} {x : α} (h : l[i]? = some x) : i < l.size := (dx.1 h).1

structure vk (φ φ' : de) : Prop where
 len : φ.length <= φ'.length
 Ic : ∀ (b : Nat) (p : Nat × Nat),b < φ.length -> φ'[b]? = some (some p) -> φ[b]? = some (some p)
theorem vk.refl (φ : de) : vk φ φ := ⟨aS _,fun _ _ _ h => h⟩
theorem vk.trans {a b c : de} (h : vk a b) (k : vk b c) : vk a c :=
 ⟨Ov h.len k.len,fun i p hi hp => h.Ic i p hi (k.Ic i p (gQ hi h.len) hp)⟩

theorem bN.mono {R R' : Addr -> Value -> Prop} (hR : ∀ a u,R a u -> R' a u) {φ : de} {x : AV} {v : Value} (h : bN R φ x v) : ∀ {φ' : de},vk φ φ' -> bN R' φ' x v := by
 induction h with
 | any => intro φ' _; exact .any _ _
 | undef => intro φ' _; exact .undef _
 | fi => intro φ' _; exact .fi _
 | eV => intro φ' _; exact .eV _
 | dc => intro φ' _; exact .dc _
 | int => intro φ' _; exact .int _ _ _
 | bool => intro φ' _; exact .bool _ _
 | str => intro φ' _; exact .str _ _
 | agg φ cs vs hl h ih => intro φ' hp; exact .agg _ _ _ hl fun i c v h1 h2 => ih i c v h1 h2 hp
 | dW φ cs vs hl h ih => intro φ' hp; exact .dW _ _ _ hl fun i c v h1 h2 => ih i c v h1 h2 hp
 | func φ f as va bs vb B6 B5 ha hb XF UA => intro φ' hp; exact .func _ _ _ _ _ _ B6 B5 (fun i c v h1 h2 => XF i c v h1 h2 hp) (fun i c v h1 h2 => UA i c v h1 h2 hp)
 | tS φ k xs a n cap u hn iZ hk hu h ih => intro φ' _; exact .tS _ _ _ _ _ _ u hn iZ hk (fun i j x c h1 h2 => hR _ _ (hu i j x c h1 h2)) (fun i j x c h1 h2 => ih i j x c h1 h2 (.refl _))
 | jM => intro φ' _; exact .jM _ _
 | cX φ cs a u hu h ih => intro φ' _; exact .cX _ _ _ u (fun j c h1 => hR _ _ (hu j c h1)) (fun j c h1 => ih j c h1 (.refl _))
 | ptr φ b off a hb h => intro φ' hp; exact .ptr _ _ _ _ (gQ hb hp.len) fun g sz hg => h g sz (hp.Ic _ _ hb hg)
 | sl φ k b off len a cap hb hc h => intro φ' hp; exact .sl _ _ _ _ _ _ _ (gQ hb hp.len) hc fun g sz hg => h g sz (hp.Ic _ _ hb hg)

theorem pg {cs : List AV} (h : qy cs = true) : ∀ (i : Nat) (c : AV),cs[i]? = some c -> c.plain = true := by
 induction cs with
 | nil => intro i c hc; simp at hc
 | cons x r ih =>
   simp only [qy,ab] at h;intro i c hc;cases i with
   | zero => simp at hc; subst hc; exact h.1
   | succ i => simp at hc; exact ih h.2 i c hc
theorem vZ {cs : List AV} (h : FG cs = true) : ∀ (i : Nat) (c : AV),cs[i]? = some c -> c.flat = true := by
 induction cs with
 | nil => intro i c hc; simp at hc
 | cons x r ih =>
   simp only [FG,ab] at h;intro i c hc;cases i with
   | zero => simp at hc; subst hc; exact h.1
   | succ i => simp at hc; exact ih h.2 i c hc
theorem nh {n : Nat} {cs : List AV} (h : oa n cs = true) : ∀ (i : Nat) (c : AV),cs[i]? = some c -> c.ur n = true := by
 induction cs with
 | nil => intro i c hc; simp at hc
 | cons x r ih =>
   simp only [oa,ab] at h;intro i c hc;cases i with
   | zero => simp at hc; subst hc; exact h.1
   | succ i => simp at hc; exact ih h.2 i c hc
theorem vh {cs : List AV} (h : bm cs = true) : ∀ (i : Nat) (c : AV),cs[i]? = some c -> c.leaf = true := by
 induction cs with
 | nil => intro i c hc; simp at hc
 | cons x r ih =>
   simp only [bm,ab] at h;intro i c hc;cases i with
   | zero => simp at hc; subst hc; exact h.1
   | succ i => simp at hc; exact ih h.2 i c hc

theorem bN.dA {R : Addr -> Value -> Prop} {φ : de} {x : AV} {v : Value} (h : bN R φ x v) : x.plain = true -> ∀ ψ,bN R ψ x v := by
 induction h with
 | any => intro _ ψ; exact .any _ _
 | undef => intro _ ψ; exact .undef _
 | fi => intro _ ψ; exact .fi _
 | eV => intro _ ψ; exact .eV _
 | dc => intro _ ψ; exact .dc _
 | int => intro _ ψ; exact .int _ _ _
 | bool => intro _ ψ; exact .bool _ _
 | str => intro _ ψ; exact .str _ _
 | agg φ cs vs hl h ih => intro hp ψ; simp only [AV.plain] at hp; exact .agg _ _ _ hl fun i c v h1 h2 => ih i c v h1 h2 (pg hp i c h1) ψ
 | dW φ cs vs hl h ih => intro hp ψ; simp only [AV.plain] at hp; exact .dW _ _ _ hl fun i c v h1 h2 => ih i c v h1 h2 (pg hp i c h1) ψ
 | func φ f as va bs vb B6 B5 ha hb XF UA =>
   intro hp ψ;simp only [AV.plain,ab] at hp;exact .func _ _ _ _ _ _ B6 B5 (fun i c v h1 h2 => XF i c v h1 h2 (pg hp.1 i c h1) ψ) (fun i c v h1 h2 => UA i c v h1 h2 (pg hp.2 i c h1) ψ)
 | tS φ k xs a n cap u hn iZ hk hu h ih => intro _ ψ; exact .tS _ _ _ _ _ _ u hn iZ hk hu h
 | jM => intro _ ψ; exact .jM _ _
 | cX φ cs a u hu h ih => intro _ ψ; exact .cX _ _ _ u hu h
 | ptr => intro hp; simp [AV.plain] at hp
 | sl => intro hp; simp [AV.plain] at hp
theorem bN.of_flat {R : Addr -> Value -> Prop} {φ : de} {x : AV} {v : Value} (h : bN R φ x v) : x.flat = true -> ∀ (R' : Addr -> Value -> Prop) ψ,bN R' ψ x v := by
 induction h with
 | any => intro _ _ ψ; exact .any _ _
 | undef => intro _ _ ψ; exact .undef _
 | fi => intro _ _ ψ; exact .fi _
 | eV => intro _ _ ψ; exact .eV _
 | dc => intro _ _ ψ; exact .dc _
 | int => intro _ _ ψ; exact .int _ _ _
 | bool => intro _ _ ψ; exact .bool _ _
 | str => intro _ _ ψ; exact .str _ _
 | agg φ cs vs hl h ih => intro hp R' ψ; simp only [AV.flat] at hp; exact .agg _ _ _ hl fun i c v h1 h2 => ih i c v h1 h2 (vZ hp i c h1) R' ψ
 | dW φ cs vs hl h ih => intro hp R' ψ; simp only [AV.flat] at hp; exact .dW _ _ _ hl fun i c v h1 h2 => ih i c v h1 h2 (vZ hp i c h1) R' ψ
 | func φ f as va bs vb B6 B5 ha hb XF UA =>
   intro hp R' ψ;simp only [AV.flat,ab] at hp;exact .func _ _ _ _ _ _ B6 B5 (fun i c v h1 h2 => XF i c v h1 h2 (vZ hp.1 i c h1) R' ψ) (fun i c v h1 h2 => UA i c v h1 h2 (vZ hp.2 i c h1) R' ψ)
 | tS => intro hp; simp [AV.flat] at hp
 | jM => intro hp; simp [AV.flat] at hp
 | cX => intro hp; simp [AV.flat] at hp
 | ptr => intro hp; simp [AV.flat] at hp
 | sl => intro hp; simp [AV.flat] at hp
theorem bN.take {R : Addr -> Value -> Prop} {φ : de} {x : AV} {v : Value} {n : Nat} (h : bN R φ x v) : x.ur n = true -> bN R (φ.take n) x v := by
 induction h with
 | any => intro _; exact .any _ _
 | undef => intro _; exact .undef _
 | fi => intro _; exact .fi _
 | eV => intro _; exact .eV _
 | dc => intro _; exact .dc _
 | int => intro _; exact .int _ _ _
 | bool => intro _; exact .bool _ _
 | str => intro _; exact .str _ _
 | agg φ cs vs hl h ih => intro hp; simp only [AV.ur] at hp; exact .agg _ _ _ hl fun i c v h1 h2 => ih i c v h1 h2 (nh hp i c h1)
 | dW φ cs vs hl h ih => intro hp; simp only [AV.ur] at hp; exact .dW _ _ _ hl fun i c v h1 h2 => ih i c v h1 h2 (nh hp i c h1)
 | func φ f as va bs vb B6 B5 ha hb XF UA =>
   intro hp;simp only [AV.ur,ab] at hp;exact .func _ _ _ _ _ _ B6 B5 (fun i c v h1 h2 => XF i c v h1 h2 (nh hp.1 i c h1)) (fun i c v h1 h2 => UA i c v h1 h2 (nh hp.2 i c h1))
 | tS φ k xs a n cap u hn iZ hk hu h ih => intro _; exact .tS _ _ _ _ _ _ u hn iZ hk hu h
 | jM => intro _; exact .jM _ _
 | cX φ cs a u hu h ih => intro _; exact .cX _ _ _ u hu h
 | ptr φ b off a hb h =>
   intro hp;have SO : b < n := by simpa [AV.ur] using hp
   refine .ptr _ _ _ _ (by rw [bg]; omega) fun g sz hg => h g sz ?_;rw [aR SO] at hg;exact hg
 | sl φ k b off len a cap hb hc h =>
   intro hp;have SO : b < n := by simpa [AV.ur] using hp
   refine .sl _ _ _ _ _ _ _ (by rw [bg]; omega) hc fun g sz hg => h g sz ?_;rw [aR SO] at hg;exact hg
theorem bN.sR {R : Addr -> Value -> Prop} {φ : de} {x : AV} {v : Value} (h : bN R φ x v) (hl : x.leaf = true) : v.oneCell' = true := by
 cases h <;> first | rfl | simp [AV.leaf] at hl

theorem bN.cells {R : Addr -> Value -> Prop} {φ : de} {x : AV} {v : Value} (h : bN R φ x v) (hs : bm x.cells = true) :
  x.cells.length = v.cells.size /\ ∀ (i : Nat) (c : AV),x.cells[i]? = some c -> ∃ u,v.cells[i]? = some u /\ bN R φ c u /\ u.oneCell' = true := by
 have one : ∀ {x : AV} {v : Value},x.cells = [x] -> v.cells = #[v] -> bN R φ x v -> bm x.cells = true ->
   x.cells.length = v.cells.size /\ ∀ (i : Nat) (c : AV),x.cells[i]? = some c -> ∃ u,v.cells[i]? = some u /\ bN R φ c u /\ u.oneCell' = true := by
  intro x v hx hv h hs;rw [hx,hv];refine ⟨rfl,fun i c hc => ?_⟩;cases i with
  | zero =>
    simp at hc; subst hc;refine ⟨v,by simp,h,h.sR ?_⟩;rw [hx] at hs; simpa [bm] using hs
  | succ i => simp at hc
 cases h with
 | any => simp [AV.cells,bm,AV.leaf] at hs
 | agg φ cs vs hl h =>
   refine ⟨hl,fun i c hc => ?_⟩;have hi : i < vs.size := hl ▸ aB hc;obtain ⟨u,hu⟩ := cP hi;exact ⟨u,hu,h i c u hc hu,(h i c u hc hu).sR (vh hs i c hc)⟩
 | _ => exact one rfl rfl (by first | exact .undef _ | exact .fi _ | exact .eV _ | exact .dc _ | exact .int _ _ _ | exact .bool _ _ | exact .str _ _ | exact .jM _ _ | (constructor <;> assumption)) hs

structure b6 (X : Nat -> Prop) (φ : de) (w : World) (H : Heap) : Prop where
 len : φ.length = H.length
 GL : ∀ g,X g -> g < w.heap.size
 live : ∀ (b : Nat) (cs : List AV),H[b]? = some (some cs) -> ∃ (g sz : Nat) (arr : Array Value) (e : TypeId),φ[b]? = some (some (g,sz)) /\ w.heap[g]? = some (.cells arr e (0,0)) /\ arr.size = sz /\ cs.length <= sz /\ ¬ X g /\
  ∀ (i : Nat) (c : AV),cs[i]? = some c -> ∃ u,arr[i]? = some u /\ bN (Rd X φ w) φ c u
 dead : ∀ b : Nat,H[b]? = some none -> φ[b]? = some none
 inj : ∀ b b' g sz m9 : Nat,φ[b]? = some (some (g,sz)) -> φ[b']? = some (some (g,m9)) -> b = b'

structure fB (φ : de) (w : World) (φ' : de) (w' : World) : Prop where
 os : w'.os = w.os
 tape : w'.tape = w.tape
 output : w'.output = w.output
 drawn : w.drawn <= w'.drawn
 size : w.heap.size <= w'.heap.size
 keep : ∀ g,g < w.heap.size -> ¬ bK φ g -> w'.heap[g]? = w.heap[g]? /\ ¬ bK φ' g
 RX : vk φ φ'
theorem fB.refl (φ : de) (w : World) : fB φ w φ w := ⟨rfl,rfl,rfl,aS _,aS _,fun _ _ h => ⟨rfl,h⟩,.refl _⟩
theorem fB.trans {φ φ' nH : de} {w w' Vp : World} (h : fB φ w φ' w') (k : fB φ' w' nH Vp) : fB φ w nH Vp :=
 ⟨k.os.trans h.os,k.tape.trans h.tape,k.output.trans h.output,Ov h.drawn k.drawn,Ov h.size k.size,
  fun g hg ho => ⟨(k.keep g (gQ hg h.size) (h.keep g hg ho).2).1.trans (h.keep g hg ho).1,(k.keep g (gQ hg h.size) (h.keep g hg ho).2).2⟩,h.RX.trans k.RX⟩
theorem fB.rd {X : Nat -> Prop} {φ φ' : de} {w w' : World} (h : fB φ w φ' w') : ∀ a u,Rd X φ w a u -> Rd X φ' w' a u := by
 intro a u ⟨h1,h2,h3⟩;have bA := World.block_lt_of_cell? w a h3;exact ⟨h1,(h.keep _ bA h2).2,(World.cell?_of_block (h.keep _ bA h2).1).trans h3⟩
theorem fB.rep {X : Nat -> Prop} {φ φ' : de} {w w' : World} (h : fB φ w φ' w') {x : AV} {v : Value} (r : bN (Rd X φ w) φ x v) : bN (Rd X φ' w') φ' x v := r.mono h.rd h.RX
theorem fB.drew (φ : de) (w : World) : fB φ w φ w.drew := ⟨rfl,rfl,rfl,Nat.le_succ _,aS _,fun _ _ h => ⟨rfl,h⟩,.refl _⟩

def nE (X : Nat -> Prop) (φ : de) (w : World) (env : Env) (tmps : Array Value) : Prop := ∀ i,bN (Rd X φ w) φ (get env i) (tmps.getD i undef)
theorem br (env : Env) (d : Nat) (v : AV) (i : Nat) : get (put env d v) i = if i = d then v else get env i := by
 induction env with
 | nil => by_cases h : i = d <;> simp [put,get,h]
 | cons p r ih =>
   obtain ⟨j,u⟩ := p;unfold put;split
   ·by_cases h : i = d <;> simp [get,h]
   ·split
    ·rename_i h1 h2;subst h2;by_cases h : i = d <;> simp [get,h]
    ·rename_i h1 h2;simp only [get,ih];by_cases h : i = j
     ·subst h; simp [Ne.symm h2]
     ·simp [h]
theorem nE.put {X : Nat -> Prop} {φ : de} {w : World} {env : Env} {tmps : Array Value} (h : nE X φ w env tmps) {d : Nat} (hd : d < tmps.size) {x : AV} {v : Value} (r : bN (Rd X φ w) φ x v) :
  nE X φ w (put env d x) (tmps.setIfInBounds d v) := by
 intro i;rw [br];by_cases hi : i = d
 ·subst hi;simp [hd,r]
 ·have := h i;simpa [hi,Array.getElem?_setIfInBounds_ne (Ne.symm hi)] using this
theorem nE.m6 {X : Nat -> Prop} {φ φ' : de} {w w' : World} {env : Env} {tmps : Array Value} (h : nE X φ w env tmps) (k : fB φ w φ' w') : nE X φ' w' env tmps := fun i => k.rep (h i)

theorem Addr.add_add (a : Addr) (n m : Nat) : (a.add n).add m = a.add (n + m) := by
 unfold Addr.add;by_cases hn : n = 0
 ·subst hn; simp
 ·by_cases hm : m = 0
  ·subst hm; simp [hn]
  ·simp [hn,hm,Nat.add_assoc]
theorem Addr.iu (g o n : Nat) : Addr.add ⟨g,o,none⟩ n = ⟨g,o + n,none⟩ := Addr.add_lit g o n
end Go.Am

/- The heap relation under the steps of the machine; freezing. -/
namespace Go.Am

theorem u7 {H : Heap} {b : Nat} {cs : List AV} (h : aH H b = some cs) : H[b]? = some (some cs) := by
 unfold aH at h;split at h
 ·rename_i h'; rw [h']; simpa using h
 ·cases h
theorem b6.at {X : Nat -> Prop} {φ : de} {w : World} {H : Heap} (h : b6 X φ w H) {b : Nat} {cs : List AV} (hb : aH H b = some cs) :
  ∃ (g sz : Nat) (arr : Array Value) (e : TypeId),φ[b]? = some (some (g,sz)) /\ w.heap[g]? = some (.cells arr e (0,0)) /\ arr.size = sz /\ cs.length <= sz /\ ¬ X g /\
   ∀ (i : Nat) (c : AV),cs[i]? = some c -> ∃ u,arr[i]? = some u /\ bN (Rd X φ w) φ c u := h.live b cs (u7 hb)

theorem bK.nil (g : Nat) : ¬ bK [] g := fun ⟨b,sz,h⟩ => by simp at h
theorem zp {φ : de} {p : Nat × Nat} {g : Nat} (h : bK (φ ++ [some p]) g) : bK φ g \/ g = p.1 := by
 obtain ⟨b,sz,hb⟩ := h;by_cases bA : b < φ.length
 ·rw [av bA] at hb;exact .inl ⟨b,sz,hb⟩
 ·rw [aQ (by omega)] at hb
  have h0 : b - φ.length = 0 := by
   have := aB hb;simp at this; omega
  rw [h0] at hb;simp at hb;right; rw [hb]
theorem H8 {φ : de} {b g : Nat} (h : bK (φ.set b none) g) : bK φ g := by
 obtain ⟨c,sz,hc⟩ := h;refine ⟨c,sz,?_⟩;rw [bj] at hc;split at hc
 ·split at hc <;> simp at hc
 ·exact hc

theorem fB.of_same {φ : de} {w w' : World} {ψ : de} (h : fB [] w ψ w') : fB φ w φ w' :=
 ⟨h.os,h.tape,h.output,h.drawn,h.size,fun g hg ho => ⟨(h.keep g hg (bK.nil g)).1,ho⟩,.refl _⟩
theorem b6.of_same {X : Nat -> Prop} {φ : de} {w w' : World} {H : Heap} {ψ : de} (h : b6 X φ w H) (a : fB [] w ψ w') : b6 X φ w' H := by
 have k : fB φ w φ w' := fB.of_same a;refine ⟨h.len,fun g hg => gQ (h.GL g hg) a.size,fun b cs hb => ?_,h.dead,h.inj⟩;obtain ⟨g,sz,arr,e,h1,h2,h3,h4,h5,h6⟩ := h.live b cs hb;refine ⟨g,sz,arr,e,h1,?_,h3,h4,h5,fun i c hc => ?_⟩
 ·rw [(a.keep g (dx.1 h2).1 (bK.nil g)).1]; exact h2
 ·obtain ⟨u,hu,r⟩ := h6 i c hc;exact ⟨u,hu,k.rep r⟩

theorem b6.alloc {X : Nat -> Prop} {φ : de} {w w' : World} {H : Heap} (h : b6 X φ w H) {arr : Array Value} {e : TypeId} (hw : w'.heap = w.heap.push (.cells arr e (0,0)))
  (ho : w'.os = w.os) (ht : w'.tape = w.tape) (hp : w'.output = w.output) {cs : List AV} (hl : cs.length <= arr.size)
  (hc : ∀ (i : Nat) (c : AV),cs[i]? = some c -> ∃ u,arr[i]? = some u /\ bN (Rd X φ w) φ c u) (hd : w.drawn <= w'.drawn) :
  b6 X (φ ++ [some (w.heap.size,arr.size)]) w' (H ++ [some cs]) /\ fB φ w (φ ++ [some (w.heap.size,arr.size)]) w' := by
 have own : ∀ g,bK φ g -> g < w.heap.size := by
  intro g ⟨b,sz,hb⟩;have bA : b < H.length := h.len ▸ aB hb;obtain ⟨x,hx⟩ := bc bA;cases x with
  | none => rw [h.dead b hx] at hb; simp at hb
  | some cs =>
    obtain ⟨g',m9,arr,e,h1,h2,_⟩ := h.live b cs hx;rw [h1] at hb;simp at hb;rw [<- hb.1];exact (dx.1 h2).1
 have a : fB φ w (φ ++ [some (w.heap.size,arr.size)]) w' := by
  refine ⟨ho,ht,hp,hd,by rw [hw]; simp,fun g hg hn => ⟨?_,?_⟩,⟨by simp,fun b p hb hp => ?_⟩⟩
  ·rw [hw,Qp,if_neg (by omega)]
  ·intro ho;rcases zp ho with h1 | h1
   ·exact hn h1
   ·simp at h1; omega
  ·rwa [av hb] at hp
 refine ⟨⟨by simp [h.len],fun g hg => ?_,fun b ds hb => ?_,fun b hb => ?_,fun b b' g sz m9 h1 h2 => ?_⟩,a⟩
 ·rw [hw]; have := h.GL g hg; simp; omega
 ·by_cases bA : b < H.length
  ·rw [av bA] at hb;obtain ⟨g,sz,ar,e',h1,h2,h3,h4,h5,h6⟩ := h.live b ds hb;refine ⟨g,sz,ar,e',by rw [av (by rw [h.len]; exact bA)]; exact h1,?_,h3,h4,h5,fun i c hc => ?_⟩
   ·rw [hw,Qp,if_neg (by have := (dx.1 h2).1; omega)]; exact h2
   ·obtain ⟨u,hu,r⟩ := h6 i c hc;exact ⟨u,hu,a.rep r⟩
  ·have gr := aB hb;simp at gr;have CE : b = H.length := by omega
   subst CE;simp at hb;subst hb;refine ⟨w.heap.size,arr.size,arr,e,by rw [<- h.len]; simp,by rw [hw]; simp,rfl,hl,fun hx => by have := h.GL _ hx; omega,fun i c hi => ?_⟩;obtain ⟨u,hu,r⟩ := hc i c hi;exact ⟨u,hu,a.rep r⟩
 ·by_cases bA : b < H.length
  ·rw [av bA] at hb;rw [av (by rw [h.len]; exact bA)];exact h.dead b hb
  ·have gr := aB hb;simp at gr;have CE : b = H.length := by omega
   subst CE;simp at hb
 ·have new : ∀ (b g sz : Nat),(φ ++ [some (w.heap.size,arr.size)])[b]? = some (some (g,sz)) -> (b < φ.length /\ φ[b]? = some (some (g,sz)) /\ g < w.heap.size) \/ (b = φ.length /\ g = w.heap.size) := by
   intro b g sz hb;by_cases bA : b < φ.length
   ·rw [av bA] at hb;exact .inl ⟨bA,hb,own g ⟨b,sz,hb⟩⟩
   ·have gr := aB hb;simp at gr;have CE : b = φ.length := by omega
    subst CE;simp at hb;exact .inr ⟨rfl,hb.1.symm⟩
  rcases new b g sz h1 with ⟨l1,e1,g1⟩ | ⟨l1,g1⟩ <;> rcases new b' g m9 h2 with ⟨l2,e2,g2⟩ | ⟨l2,g2⟩
  ·exact h.inj b b' g sz m9 e1 e2
  ·omega
  ·omega
  ·omega

theorem b6.store {X : Nat -> Prop} {φ : de} {w w' : World} {H : Heap} (h : b6 X φ w H) {b g sz : Nat} {arr arr' : Array Value} {e : TypeId} {cs' : List AV}
  (kF : φ[b]? = some (some (g,sz))) (hg : w.heap[g]? = some (.cells arr e (0,0))) (nk : arr.size = sz) (hs : arr'.size = arr.size) (hw : w' = w.setRow g arr') (hX : ¬ X g)
  (hl : cs'.length <= arr'.size) (hc : ∀ (i : Nat) (c : AV),cs'[i]? = some c -> ∃ u,arr'[i]? = some u /\ bN (Rd X φ w) φ c u) :
  b6 X φ w' (H.set b (some cs')) /\ fB φ w φ w' := by
 subst hw;have a : fB φ w φ (w.setRow g arr') := ⟨rfl,rfl,rfl,aS _,by simp,fun k _ ho => ⟨setRow_other w g k _ (fun e => ho ⟨b,sz,e ▸ kF⟩),ho⟩,.refl _⟩;refine ⟨⟨by simp [h.len],fun k hk => by simpa using h.GL k hk,fun c ds hb => ?_,fun c hb => ?_,h.inj⟩,a⟩
 ·rw [bj] at hb;split at hb
  ·rename_i GF;subst GF;split at hb
   ·simp at hb;subst hb;refine ⟨g,sz,arr',e,kF,setRow_heap w g arr arr' e _ hg,by omega,by omega,hX,fun i c hi => ?_⟩;obtain ⟨u,hu,r⟩ := hc i c hi;exact ⟨u,hu,a.rep r⟩
   ·simp at hb
  ·rename_i GF;obtain ⟨g',m9,ar,e',h1,h2,h3,h4,h5,h6⟩ := h.live c ds hb;refine ⟨g',m9,ar,e',h1,?_,h3,h4,h5,fun i c hi => ?_⟩
   ·rw [setRow_other w g g' _ (fun eq => GF (h.inj b c g sz m9 kF (eq ▸ h1)))]; exact h2
   ·obtain ⟨u,hu,r⟩ := h6 i c hi;exact ⟨u,hu,a.rep r⟩
 ·rw [bj] at hb;split at hb
  ·split at hb <;> simp at hb
  ·exact h.dead c hb

theorem b6.Xw {X : Nat -> Prop} {φ : de} {w : World} {H : Heap} (h : b6 X φ w H) (b : Nat) : b6 X (φ.set b none) w (H.set b none) /\ fB φ w (φ.set b none) w := by
 have a : fB φ w (φ.set b none) w := by
  refine ⟨rfl,rfl,rfl,aS _,aS _,fun g _ ho => ⟨rfl,fun hx => ho (H8 hx)⟩,⟨by simp,fun c p hc hp => ?_⟩⟩;rw [bj] at hp;split at hp
  ·split at hp <;> simp at hp
  ·exact hp
 refine ⟨⟨by simp [h.len],h.GL,fun c ds hb => ?_,fun c hb => ?_,fun c c' g sz m9 h1 h2 => ?_⟩,a⟩
 ·rw [bj] at hb;split at hb
  ·split at hb <;> simp at hb
  ·rename_i GF;obtain ⟨g',m9,ar,e',h1,h2,h3,h4,h5,h6⟩ := h.live c ds hb;refine ⟨g',m9,ar,e',?_,h2,h3,h4,h5,fun i c hi => ?_⟩
   ·rw [bj,if_neg GF]; exact h1
   ·obtain ⟨u,hu,r⟩ := h6 i c hi;exact ⟨u,hu,a.rep r⟩
 ·rw [bj] at hb ⊢;split at hb
  ·rename_i GF;rw [if_pos GF];split at hb
   ·rename_i bA;rw [if_pos (by rw [h.len]; exact bA)]
   ·simp at hb
  ·rename_i GF;rw [if_neg GF];exact h.dead c hb
 ·have un : ∀ (c g sz : Nat),(φ.set b none)[c]? = some (some (g,sz)) -> φ[c]? = some (some (g,sz)) := by
   intro c g sz hc;rw [bj] at hc;split at hc
   ·split at hc <;> simp at hc
   ·exact hc
  exact h.inj c c' g sz m9 (un c g sz h1) (un c' g m9 h2)
def M5 : de -> List Nat -> de
 | φ,[] => φ
 | φ,b :: r => M5 (φ.set b none) r
theorem b6.kill {X : Nat -> Prop} {w : World} : ∀ (bs : List Nat) {φ : de} {H : Heap},b6 X φ w H -> b6 X (M5 φ bs) w (kill H bs) /\ fB φ w (M5 φ bs) w
 | [],φ,H,h => ⟨h,.refl _ _⟩
 | b :: r,φ,H,h => by
   obtain ⟨h1,a1⟩ := h.Xw b;obtain ⟨h2,a2⟩ := b6.kill r h1;exact ⟨h2,a1.trans a2⟩
theorem Ix : ∀ (bs : List Nat) (φ : de) (c : Nat) (p : Nat × Nat),(M5 φ bs)[c]? = some (some p) -> φ[c]? = some (some p) /\ c ∉ bs
 | [],φ,c,p,h => ⟨h,by simp⟩
 | b :: r,φ,c,p,h => by
   obtain ⟨h1,h2⟩ := Ix r (φ.set b none) c p h;rw [bj] at h1;split at h1
   ·split at h1 <;> simp at h1
   ·rename_i GF;exact ⟨h1,by simp [h2]; exact fun e => GF e.symm⟩

theorem b6.move {X : Nat -> Prop} {φ : de} {w w' : World} {H : Heap} (h : b6 X φ w H) {b g sz : Nat} {arr arr' : Array Value} {e : TypeId} {cs' : List AV}
  (kF : φ[b]? = some (some (g,sz))) (hg : w.heap[g]? = some (.cells arr e (0,0))) (nk : arr.size = sz) (hs : arr'.size = arr.size) (hw : w' = w.setRow g arr') (hX : ¬ X g)
  (hl : cs'.length <= arr'.size) (hc : ∀ (i : Nat) (c : AV),cs'[i]? = some c -> ∃ u,arr'[i]? = some u /\ bN (Rd X φ w) φ c u) :
  b6 X (φ.set b none ++ [some (g,sz)]) w' (H.set b none ++ [some cs']) /\ fB φ w (φ.set b none ++ [some (g,sz)]) w' := by
 subst hw;have On : b < φ.length := aB kF
 have look : ∀ (c : Nat) (p : Nat × Nat),(φ.set b none ++ [some (g,sz)])[c]? = some (some p) -> (c < φ.length /\ c ≠ b /\ φ[c]? = some (some p)) \/ (c = φ.length /\ p = (g,sz)) := by
  intro c p hc;by_cases bA : c < φ.length
  ·rw [av (by simpa using bA),bj] at hc;split at hc
   ·simp_all
   ·rename_i GF; exact .inl ⟨bA,fun e => GF e.symm,hc⟩
  ·have gr := aB hc;simp at gr;have CE : c = φ.length := by omega
   subst CE;rw [aQ (by simp)] at hc;simp at hc;exact .inr ⟨rfl,hc.symm⟩
 have a : fB φ w (φ.set b none ++ [some (g,sz)]) (w.setRow g arr') := by
  refine ⟨rfl,rfl,rfl,aS _,by simp,fun k _ ho => ⟨setRow_other w g k _ (fun e => ho ⟨b,sz,e ▸ kF⟩),?_⟩,⟨by simp,fun c p hc hp => ?_⟩⟩
  ·intro ⟨c,s,hc⟩;rcases look c _ hc with ⟨_,_,h1⟩ | ⟨_,h1⟩
   ·exact ho ⟨c,s,h1⟩
   ·simp at h1; exact ho ⟨b,sz,h1.1 ▸ kF⟩
  ·rcases look c p hp with ⟨_,_,h1⟩ | ⟨h1,_⟩
   ·exact h1
   ·omega
 refine ⟨⟨by simp [h.len],fun k hk => by simpa using h.GL k hk,fun c ds hb => ?_,fun c hb => ?_,fun c c' k s s' h1 h2 => ?_⟩,a⟩
 ·by_cases bA : c < H.length
  ·rw [av (by simpa using bA),bj] at hb;split at hb
   ·split at hb <;> simp at hb
   ·rename_i GF;obtain ⟨g',m9,ar,e',h1,h2,h3,h4,h5,h6⟩ := h.live c ds hb;refine ⟨g',m9,ar,e',?_,?_,h3,h4,h5,fun i c hi => ?_⟩
    ·rw [av (by simp [h.len,bA]),bj,if_neg GF]; exact h1
    ·rw [setRow_other w g g' _ (fun eq => GF (h.inj b c g sz m9 kF (eq ▸ h1)))]; exact h2
    ·obtain ⟨u,hu,r⟩ := h6 i c hi;exact ⟨u,hu,a.rep r⟩
  ·have gr := aB hb;simp at gr;have CE : c = H.length := by omega
   subst CE;rw [aQ (by simp)] at hb;simp at hb;subst hb;refine ⟨g,sz,arr',e,?_,setRow_heap w g arr arr' e _ hg,by omega,by omega,hX,fun i c hi => ?_⟩
   ·rw [aQ (by simp [h.len])]; simp [h.len]
   ·obtain ⟨u,hu,r⟩ := hc i c hi;exact ⟨u,hu,a.rep r⟩
 ·by_cases bA : c < H.length
  ·rw [av (by simpa using bA),bj] at hb;rw [av (by simp [h.len,bA]),bj];split at hb
   ·rename_i GF;rw [if_pos GF,if_pos (by omega)]
   ·rename_i GF;rw [if_neg GF]; exact h.dead c hb
  ·have gr := aB hb;simp at gr;have CE : c = H.length := by omega
   subst CE;rw [aQ (by simp)] at hb;simp at hb
 ·rcases look c _ h1 with ⟨l1,n1,e1⟩ | ⟨l1,e1⟩ <;> rcases look c' _ h2 with ⟨l2,n2,e2⟩ | ⟨l2,e2⟩
  ·exact h.inj c c' k s s' e1 e2
  ·simp at e2; exact absurd (h.inj c b k s sz e1 (e2.1 ▸ kF)) n1
  ·simp at e1; exact absurd (h.inj c' b k s' sz e2 (e1.1 ▸ kF)) n2
  ·omega

theorem xL {n : Nat} : ∀ {H : Heap},xM n H = true -> ∀ (b : Nat) (cs : List AV),H[b]? = some (some cs) -> oa n cs = true
 | [],_,b,cs,hb => by simp at hb
 | none :: r,h,b,cs,hb => by
   cases b with
   | zero => simp at hb
   | succ b => simp at hb; exact xL (H := r) (by simpa [xM] using h) b cs hb
 | some ds :: r,h,b,cs,hb => by
   simp only [xM,ab] at h;cases b with
   | zero => simp at hb; subst hb; exact h.1
   | succ b => simp at hb; exact xL (H := r) h.2 b cs hb
theorem EN {φ : de} {n g : Nat} (h : bK (φ.take n) g) : bK φ g := by
 obtain ⟨b,sz,hb⟩ := h;rw [bF] at hb;split at hb
 ·exact ⟨b,sz,hb⟩
 ·simp at hb
theorem QH {X : Nat -> Prop} {φ : de} {w : World} {n : Nat} : ∀ a u,Rd X φ w a u -> Rd X (φ.take n) w a u := fun _ _ ⟨h1,h2,h3⟩ => ⟨h1,fun h => h2 (EN h),h3⟩
theorem b6.take {X : Nat -> Prop} {φ : de} {w : World} {H : Heap} (h : b6 X φ w H) {n : Nat} (hn : n <= H.length) (cO : xM n (H.take n) = true) : b6 X (φ.take n) w (H.take n) := by
 refine ⟨by simp [h.len],h.GL,fun b cs hb => ?_,fun b hb => ?_,fun b b' g sz m9 h1 h2 => ?_⟩
 ·have hr := xL cO b cs hb;have bA : b < n := by have := aB hb; simp at this; omega
  rw [aR bA] at hb;obtain ⟨g,sz,ar,e,h1,h2,h3,h4,h5,h6⟩ := h.live b cs hb;refine ⟨g,sz,ar,e,by rw [aR bA]; exact h1,h2,h3,h4,h5,fun i c hi => ?_⟩;obtain ⟨u,hu,r⟩ := h6 i c hi;exact ⟨u,hu,(r.take (nh hr i c hi)).mono QH (.refl _)⟩
 ·have bA : b < n := by have := aB hb; simp at this; omega
  rw [aR bA] at hb ⊢;exact h.dead b hb
 ·rw [bF] at h1 h2;split at h1 <;> split at h2 <;> first | exact h.inj b b' g sz m9 h1 h2 | (first | simp at h1 | simp at h2)
theorem fB.take {φ φ' : de} {w w' : World} (h : fB φ w φ' w') : fB φ w (φ'.take φ.length) w' :=
 ⟨h.os,h.tape,h.output,h.drawn,h.size,fun g hg ho => ⟨(h.keep g hg ho).1,fun hx => (h.keep g hg ho).2 (EN hx)⟩,
  ⟨by rw [bg]; have := h.RX.len; omega,fun b p hb hp => h.RX.Ic b p hb (by rwa [aR hb] at hp)⟩⟩

/-! Freezing -/
theorem rP {f : AV -> Option (AV × List Nat)} : ∀ {xs ys : List AV} {bs : List Nat},AR f xs = some (ys,bs) ->
  ys.length = xs.length /\ ∀ (i : Nat) (x : AV),xs[i]? = some x -> ∃ y b,f x = some (y,b) /\ ys[i]? = some y /\ ∀ c ∈ b,c ∈ bs
 | [],ys,bs,h => by simp [AR] at h; obtain ⟨rfl,rfl⟩ := h; exact ⟨rfl,fun i x hx => by simp at hx⟩
 | x :: r,ys,bs,h => by
   simp only [AR] at h;split at h
   ·rename_i y b Qq bs' h1 h2;simp at h;obtain ⟨rfl,rfl⟩ := h;obtain ⟨hl,hm⟩ := rP h2;refine ⟨by simp [hl],fun i z hz => ?_⟩;cases i with
    | zero => simp at hz; subst hz; exact ⟨y,b,h1,by simp,fun c hc => by simp [hc]⟩
    | succ i =>
      simp at hz;obtain ⟨y',b',e1,e2,e3⟩ := hm i z hz;exact ⟨y',b',e1,by simpa using e2,fun c hc => by simp [e3 c hc]⟩
   ·cases h
theorem rU (l : List AV) : (el l).cells = l := by
 unfold el;split <;> first | rfl | skip
 rename_i x hx;cases x <;> first | rfl | (exact absurd rfl (hx _))
theorem Fy (k : Nat) : ∀ (n : Nat) (ys : List AV),n * k <= ys.length -> (Oq k n ys).length = n /\ ∀ (i : Nat) (x : AV),(Oq k n ys)[i]? = some x -> x.cells = (ys.drop (i * k)).take k /\ i < n
 | 0,ys,_ => ⟨rfl,fun i x hx => by simp [Oq] at hx⟩
 | n + 1,ys,h => by
   have h' : n * k <= (ys.drop k).length := by rw [cB]; rw [bV] at h; omega
   obtain ⟨hl,hm⟩ := Fy k n (ys.drop k) h';refine ⟨by simp [Oq,hl],fun i x hx => ?_⟩;cases i with
   | zero => simp [Oq] at hx; subst hx; rw [rU]; simp
   | succ i =>
     simp [Oq] at hx;obtain ⟨e1,e2⟩ := hm i x hx;refine ⟨?_,by omega⟩;rw [e1,List.drop_drop];congr 2;rw [bV]; omega
theorem gL {w : World} {g : Nat} {arr : Array Value} {e : TypeId} {fr : Nat × Nat} (h : w.heap[g]? = some (.cells arr e fr)) (o : Nat) : w.cell? ⟨g,o,none⟩ = arr[o]? := cell_of_row w g o arr e fr h

theorem C5 {X : Nat -> Prop} {φ : de} {w : World} {H : Heap} (h : b6 X φ w H) {R : Addr -> Value -> Prop} (hR : ∀ a u,Rd X φ w a u -> R a u) :
  ∀ (n : Nat) (x y : AV) (v : Value) (bs : List Nat),Bk H n x = some (y,bs) ->
   (∀ b ∈ bs,∀ g sz : Nat,φ[b]? = some (some (g,sz)) -> ∀ o u,w.cell? ⟨g,o,none⟩ = some u -> R ⟨g,o,none⟩ u) -> bN (Rd X φ w) φ x v -> bN R [] y v
 | 0,_,_,_,_,hf,_,_ => by simp [Bk] at hf
 | n + 1,x,y,v,bs,hf,hb,r => by
   have ih := C5 h hR n
   have many : ∀ {cs ys : List AV} {bs' : List Nat} {vs : Array Value},AR (Bk H n) cs = some (ys,bs') -> (∀ b ∈ bs',b ∈ bs) -> cs.length = vs.size ->
     (∀ (i : Nat) (c : AV) (v : Value),cs[i]? = some c -> vs[i]? = some v -> bN (Rd X φ w) φ c v) ->
     ys.length = vs.size /\ ∀ (i : Nat) (c : AV) (v : Value),ys[i]? = some c -> vs[i]? = some v -> bN R [] c v := by
    intro cs ys bs' vs hm Bc hl hr;obtain ⟨UL,UK⟩ := rP hm;refine ⟨by omega,fun i c v hc hv => ?_⟩;obtain ⟨x,hx⟩ := bc (l := cs) (i := i) (by have := aB hc; omega);obtain ⟨y,b,e1,e2,e3⟩ := UK i x hx;rw [e2] at hc;simp at hc;subst hc;exact ih x _ v b e1 (fun b' gr => hb b' (Bc _ (e3 b' gr))) (hr i x v hx hv)
   cases x with
   | ptr b off =>
     simp only [Bk] at hf;split at hf
     ·rename_i cs dv;split at hf
      ·rename_i ys bs' hm;simp at hf;obtain ⟨rfl,rfl⟩ := hf;obtain ⟨g,sz,arr,e,h1,h2,h3,h4,h5,h6⟩ := h.at dv;obtain ⟨UL,UK⟩ := rP hm;cases r with
       | ptr _ _ _ a On ha =>
         obtain rfl := ha g sz h1;refine .cX _ _ _ (fun j => arr[off + j]?.getD undef) (fun j c hc => ?_) (fun j c hc => ?_)
         ·obtain ⟨x,hx⟩ := bc (l := cs.drop off) (i := j) (by have := aB hc; omega);rw [aV] at hx;obtain ⟨u,hu,_⟩ := h6 _ _ hx;rw [Addr.iu];refine hb b (by simp) g sz h1 _ _ ?_;rw [gL h2,hu]; simp
         ·obtain ⟨x,hx⟩ := bc (l := cs.drop off) (i := j) (by have := aB hc; omega);obtain ⟨y,b',e1,e2,e3⟩ := UK j x hx;rw [e2] at hc;simp at hc;subst hc;rw [aV] at hx;obtain ⟨u,hu,r⟩ := h6 _ _ hx;refine ih x _ _ b' e1 (fun c hc => hb c (by simp [e3 c hc])) ?_;rw [hu]; exact r
      ·cases hf
     ·cases hf
   | sl k b off len =>
     simp only [Bk] at hf;split at hf
     ·rename_i cs dv;split at hf
      ·rename_i nr;split at hf
       ·rename_i ys bs' hm;simp at hf;obtain ⟨rfl,rfl⟩ := hf;obtain ⟨g,sz,arr,e,h1,h2,h3,h4,h5,h6⟩ := h.at dv;obtain ⟨UL,UK⟩ := rP hm;have Cz : ys.length = len * k := by rw [UL,bg,cB]; omega
        obtain ⟨gl,gm⟩ := Fy k len ys (by omega);cases r with
        | sl _ _ _ _ _ a cap On hc ha =>
          obtain ⟨Nr,iZ⟩ := ha g sz h1;by_cases Fw : 0 < cap
          case neg =>
           have Nf : len = 0 := by omega
           subst Nf;refine .tS _ _ _ _ _ _ (fun _ _ => undef) gl.symm hc (fun x hx => ?_) (fun i j x c hx hc => ?_) (fun i j x c hx hc => ?_)
           all_goals simp [Oq] at hx
          obtain rfl := Nr Fw
          have key : ∀ (i j : Nat) (x c : AV),(Oq k len ys)[i]? = some x -> x.cells[j]? = some c -> i * k + j < len * k /\ j < k /\ ys[i * k + j]? = some c := by
           intro i j x c hx hc;obtain ⟨e1,e2⟩ := gm i x hx;rw [e1,bF] at hc;split at hc
           ·rename_i hj;rw [aV] at hc;have := aB hc;exact ⟨by omega,hj,hc⟩
           ·cases hc
          refine .tS _ _ _ _ _ _ (fun i j => arr[off + (i * k + j)]?.getD undef) gl.symm hc (fun x hx => ?_) (fun i j x c hx hc => ?_) (fun i j x c hx hc => ?_)
          ·obtain ⟨i,hi⟩ := bD hx;obtain ⟨e1,e2⟩ := gm i x hi;rw [e1,bg,cB,Cz];have : i * k + k <= len * k := by rw [<- Nat.succ_mul]; exact bG _ e2
           omega
          ·obtain ⟨k1,k2,k3⟩ := key i j x c hx hc;obtain ⟨z,hz⟩ := bc (l := (cs.drop off).take (len * k)) (i := i * k + j) (by have := aB k3; omega);rw [aR k1,aV] at hz;obtain ⟨u,hu,_⟩ := h6 _ _ hz;rw [Addr.iu];refine hb b (by simp) g sz h1 _ _ ?_;rw [gL h2,hu]; simp
          ·obtain ⟨k1,k2,k3⟩ := key i j x c hx hc;obtain ⟨z,hz⟩ := bc (l := (cs.drop off).take (len * k)) (i := i * k + j) (by have := aB k3; omega);obtain ⟨y,b',e1,e2,e3⟩ := UK _ z hz;rw [e2] at k3;simp at k3;subst k3;rw [aR k1,aV] at hz;obtain ⟨u,hu,r⟩ := h6 _ _ hz;refine ih z _ _ b' e1 (fun c hc => hb c (by simp [e3 c hc])) ?_;rw [hu]; exact r
       ·cases hf
      ·cases hf
     ·cases hf
   | agg cs =>
     simp only [Bk] at hf;split at hf
     ·rename_i ys bs' hm;simp at hf;obtain ⟨rfl,rfl⟩ := hf;cases r with
      | agg _ _ vs hl hr =>
        obtain ⟨l1,r1⟩ := many hm (fun _ h => h) hl hr;exact .agg _ _ _ l1 r1
     ·cases hf
   | dW cs =>
     simp only [Bk] at hf;split at hf
     ·rename_i ys bs' hm;simp at hf;obtain ⟨rfl,rfl⟩ := hf;cases r with
      | dW _ _ vs hl hr =>
        obtain ⟨l1,r1⟩ := many hm (fun _ h => h) hl hr;exact .dW _ _ _ l1 r1
     ·cases hf
   | func f as cs =>
     simp only [Bk] at hf;split at hf
     ·rename_i ys bs1 zs bs2 hm1 Zj;simp at hf;obtain ⟨rfl,rfl⟩ := hf;cases r with
      | func _ _ _ va _ vb B6 B5 ha gr =>
        obtain ⟨l1,r1⟩ := many hm1 (fun _ h => by simp [h]) B6 ha;obtain ⟨l2,r2⟩ := many Zj (fun _ h => by simp [h]) B5 gr;exact .func _ _ _ _ _ _ l1 l2 r1 r2
     ·cases hf
   | _ =>
     simp only [Bk,aj,aF] at hf;obtain ⟨rfl,rfl⟩ := hf;exact (r.dA rfl []).mono hR (.refl _)
end Go.Am

/- The check that ties compact operations to the operations of the dump. -/
namespace Go.Am

def I2 : Value -> AV -> Bool
 | .bool a,.bool b => a == b
 | .int k n,.int k' m => decide (k = k') && decide (n = m)
 | .slice none 0 0,.dc => true
 | .pointer none,.fi => true
 | .nilFunc,.eV => true
 | .tuple vs,.undef => vs.isEmpty
 | _,_ => false
def pF : List Value -> List AV -> Bool
 | [],[] => true
 | v :: r,x :: s => I2 v x && pF r s
 | _,_ => false
def chkV : Value -> AV -> Bool
 | .agg cs,.agg ds => pF cs.toList ds
 | v,x => I2 v x
def cN : Operand -> E -> Bool
 | .tmp t,.t i => decide (t = i)
 | .const v,.k x => chkV v x
 | .func f,.k (.func (.func g) [] []) => decide (f = g)
 | .global g,.g i => decide (g = i)
 | _,_ => false
def iB : List Operand -> List E -> Bool
 | [],[] => true
 | x :: r,y :: s => cN x y && iB r s
 | _,_ => false
def pI : Option Operand -> Option E -> Bool
 | none,none => true
 | some x,some y => cN x y
 | _,_ => false
def pG (place : Nat -> Option (Nat × Nat)) : List (Nat × Operand) -> List (Nat × Nat × E) -> Bool
 | [],[] => true
 | (i,x) :: r,(off,sz,y) :: s => decide (place i = some (off,sz)) && cN x y && pG place r s
 | _,_ => false

def nD (P : Program) (t : TypeId) : Option (Option Nat) :=
 match P.underlying t with
 | some (.struct _) | some (.array _ _) => match P.info? t with
   | some i => some (some i.size)
   | none => none
 | some _ => some none
 | none => none
def lI (P : Program) (t : TypeId) (k : Nat) : Bool :=
 match P.info? t with
 | some i => decide (i.size = k)
 | none => false
def nI (P : Program) (t : TypeId) (zs : List AV) : Bool :=
 match P.info? t with
 | some i => match i.zero with
   | some z => pF z.cells.toList zs && bm zs
   | none => false
 | none => false
def ir (P : Program) (t : TypeId) (k : Nat) : Bool :=
 match P.underlying t with
 | some (.slice e) => match P.info? e with
   | some i => decide (i.size = k) && decide (0 < k) && decide (i.bytes <= 1024) && (match i.zero with
     | some z => decide (z.cells.size = k)
     | none => false)
   | none => false
 | _ => false
def gJ (P : Program) (t : TypeId) (zs : List AV) : Bool :=
 match P.underlying t with
 | some (.slice e) => nI P e zs
 | _ => false
def p7 (P : Program) (fs : Array Field) (i : Nat) : Option (Nat × Nat) :=
 match fs[i]? with
 | some f => match P.info? f.type with
   | some j => some (f.offset,j.size)
   | none => none
 | none => none
def Bl (P : Program) : Nat -> List Field -> List Bool -> Bool
 | _,[],[] => true
 | o, f :: r, b :: s => decide (f.offset = o) && decide (f.name ≠ "_") && (match P.underlying f.type with
   | some (.int _) => b
   | some .bool => !b
   | _ => false) && Bl P (o + 1) r s
 | _,_,_ => false
def F6 (P : Program) (t : TypeId) : Et -> Bool
 | .bool => match P.underlying t with
   | some .bool => true
   | _ => false
 | .Pj => match P.underlying t with
   | some (.slice _) => true
   | _ => false
 | .EZ => match P.underlying t with
   | some (.pointer _) => true
   | _ => false
 | .nfn => match P.underlying t with
   | some (.func _ _ _) => true
   | _ => false
 | .str l => match P.underlying t with
   | some (.struct fs) => !P.stoodInHeld t && !P.eqGuardType P.depth t && Bl P 0 fs.toList l
   | _ => false
def isSlice (P : Program) (t : TypeId) : Bool :=
 match P.underlying t with
 | some (.slice _) => true
 | _ => false

def eqOp : BinOp -> Bool -> Bool
 | .eql,ng => !ng
 | .neq,ng => ng
 | _,_ => false
def cG (P : Program) : Op -> Kd -> Bool
 | .move x,.mv y => cN x y
 | .assign x,.mv y => cN x y
 | .pick c a b,.pick c' a' b' => cN c c' && cN a a' && cN b b'
 | .alloc t,.new zs => nI P t zs
 | .box _ x,.box y => cN x y
 | .build t ps,.build zs qs => nI P t zs && (match P.underlying t with
   | some (.struct fs) => (fs.toList.all fun f => (P.info? f.type).isSome) && pG (p7 P fs) ps.toList qs
   | some (.array _ e) => match P.info? e with
     | some i => pG (fun j => some (j * i.size,i.size)) ps.toList qs
     | none => false
   | _ => false)
 | .buildSlice t n ps,.dh k m zs qs => decide (n = m) && ir P t k && gJ P t zs && decide (n * k <= 16777216) && pG (fun j => some (j * k,k)) ps.toList qs
 | .load t a,.ld ag y => decide (nD P t = some ag) && cN a y
 | .store t a v,.st k b y => lI P t k && cN a b && cN v y
 | .nilCheck x,.kP y => cN x y
 | .binOp op _ x y _,.bin op' x' y' => decide (op = op') && cN x x' && cN y y'
 | .binOp op t x y _,.eq ng et x' y' => eqOp op ng && F6 P t et && cN x x' && cN y y'
 | .unOp op _ x,.un op' y => decide (op = op') && cN x y
 | .convert s d x,.S7 k y => (P.underlying s).isSome && (match P.underlying d with
   | some (.int k') => decide (k = k')
   | _ => false) && cN x y
 | .makeFunc fn as bs,.GC fn' cs ds => decide (fn = fn') && iB as.toList cs && iB bs.toList ds
 | .makeSlice t l c,.MA k zs l' c' => ir P t k && gJ P t zs && cN l l' && cN c c'
 | .slice t x lo hi none,.Av k y lo' wV => ir P t k && cN x y && pI lo lo' && pI hi wV
 | .fieldAddr s x f,.dt off y => (match P.underlying s with
   | some (.struct fs) => match fs[f]? with
     | some fd => decide (fd.offset = off) && (match P.info? fd.type with
       | some i => decide (i.size ≠ 0)
       | none => false)
     | none => false
   | _ => false) && cN x y
 | .field s x f,.UW off ag y => (match P.underlying s with
   | some (.struct fs) => match fs[f]? with
     | some fd => decide (fd.offset = off) && decide (nD P fd.type = some ag)
     | none => false
   | _ => false) && cN x y
 | .indexAddr t x i,.gq k y j => ir P t k && cN x y && cN i j
 | .indexAddr t x i,.SJ n k y j => (match P.underlying t with
   | some (.array n' e) => decide (n = n') && lI P e k
   | _ => false) && cN x y && cN i j
 | .index t x i,.ix n k ag y j => (match P.underlying t with
   | some (.array n' e) => decide (n = n') && lI P e k && decide (nD P e = some ag)
   | _ => false) && cN x y && cN i j
 | .index t (.const (.string s)) i,.Ux tab j => (match P.underlying t with
   | some .string => true
   | _ => false) && decide (s.data.toList.map (·.toNat) = tab) && cN i j
 | .call { callee := .builtin .clear,args,argTypes },.Td k zs x => (match args.toList,argTypes.toList with
   | [x'],[t] => ir P t k && gJ P t zs && cN x' x
   | _,_ => false)
 | .extract x i,.ext j y => decide (i = j) && cN x y
 | .call { callee := .value (.func f),args,argTypes := _ },.call g xs => decide (f = g) && iB args.toList xs
 | .call { callee := .value x,args,argTypes := _ },.gw y xs => cN x y && iB args.toList xs
 | .call { callee := .builtin .len,args,argTypes },.len y => (match args.toList,argTypes.toList with
   | [x],[t] => isSlice P t && cN x y
   | _,_ => false)
 | .call { callee := .builtin .append,args,argTypes },.app k x y => (match args.toList,argTypes.toList with
   | [x',y'],[t,t'] => decide (t = t') && ir P t k && cN x' x && cN y' y
   | _,_ => false)
 | .call { callee := .builtin .min,args,argTypes := _ },.min xs => iB args.toList xs
 | .call { callee := .builtin .max,args,argTypes := _ },.max xs => iB args.toList xs
 | .slice t x none hi none,.I8 n y wV => (match P.underlying t with
   | some (.array n' e) => decide (n = n') && lI P e 1
   | _ => false) && (cN x y && pI hi wV)
 | .call { callee := .builtin .copy,args,argTypes },.copy k x y => (match args.toList,argTypes.toList with
   | [x',y'],[t,_] => ir P t k && cN x' x && cN y' y
   | _,_ => false)
 | _,.bad => true
 | _,_ => false

def J9 (P : Program) (N : Nat) (ops : Array Oper) (o : Oper) (q : O) : Bool :=
 decide (o.dst = q.dst) && (match q.dst with
  | some d => decide (d < N)
  | none => true) && (match o.guard,q.guard with
  | none,none => true
  | some (j,want),some (g,abF) => decide ((ops[j]?).bind (·.dst) = some g) && decide (want = abF)
  | _,_ => false) && cG P o.op q.kd
def acv (P : Program) (N : Nat) (ops : Array Oper) : List Oper -> List O -> Bool
 | [],[] => true
 | o :: r,q :: s => J9 P N ops o q && acv P N ops r s
 | _,_ => false
def ja (x y : O) : Bool :=
 (match x.dst with
  | some d => !mem d y.reads && decide (y.dst ≠ some d)
  | none => true) &&
 (match y.dst with
  | some d => !mem d x.reads
  | none => true)
def ju (i j : Nat) : List (Nat × Nat) -> Bool
 | [] => false
 | p :: r => (decide (p.1 = i) && decide (p.2 = j)) || ju i j r
def direct (y : Oper) : List Nat := (y.after.toList.filter fun e => Region.binds .any e).map (·.on)
def dedup : List Nat -> List Nat
 | [] => []
 | x :: r => if mem x (dedup r) then dedup r else x :: dedup r
def Gt (Ad : List (List Nat)) (y : Oper) : List Nat := dedup (direct y ++ (dedup (direct y)).flatMap fun i => Ad.getD i [])
def abf (un : List (Nat × Nat)) (i j : Nat) (x : O) (ys : List Nat) (q : O) : Bool := mem i ys || (ja x q && (x.kd.pure || q.kd.pure || ju i j un))
def I3 (un : List (Nat × Nat)) (j : Nat) (ys : List Nat) (q : O) : Nat -> List O -> Bool
 | _,[] => true
 | i,x :: r => abf un i j x ys q && I3 un j ys q (i + 1) r
def NT (un : List (Nat × Nat)) (Ad : List (List Nat)) (seen : List O) : List Oper -> List O -> Bool
 | y :: r,q :: s => ((direct y).all fun i => decide (i < seen.length)) && I3 un seen.length (Gt Ad y) q 0 seen && NT un (Ad ++ [Gt Ad y]) (seen ++ [q]) r s
 | _,_ => true
def chk (P : Program) (N : Nat) : Code -> C -> Bool
 | .skip,.skip => true
 | .ret,.ret => true
 | .exit i,.exit j => decide (i = j)
 | .region _ ops d,.aO os dr un _ => decide (d = dr) && acv P N ops ops.toList os && (!dr || NT un [] [] ops.toList os)
 | .seq a b,.seq x y => chk P N a x && chk P N b y
 | .cond c a b,.cond c' x y => cN c c' && chk P N a x && chk P N b y
 | .block i b,.aH j x => decide (i = j) && chk P N b x
 | .loop b,.loop x => chk P N b x
 | .label _,.skip => true
 | .scope b,.seq .skip x => chk P N b x
 | _,_ => false
def chkR (P : Program) : ResultVar -> Rv -> Bool
 | .tmp t,.t i => decide (t = i)
 | .cell a t,.c i ag => decide (a = i) && decide (nD P t = some ag)
 | _,_ => false
def Cf (P : Program) : List ResultVar -> List Rv -> Bool
 | [],[] => true
 | x :: r,y :: s => chkR P x y && Cf P r s
 | _,_ => false
def chkF (P : Program) (fn : Func) (q : fO) : Bool :=
 decide (fn.ntmps = q.n) && !(fn.name == "runtime.NumGoroutine") && Cf P fn.results.toList q.res && (match fn.body with
  | some c => chk P q.n c q.body
  | none => false)
structure Od (P : Program) (c : dN) : Prop where
 mixed : P.follows .mixedOrders = true
 fn : ∀ f m q,c.fn f = some (m,q) -> ∃ fn,P.funcs[f]? = some fn /\ chkF P fn q = true
end Go.Am

/- What one operation of the dump does is what the compact operation says: the operations that call nothing. -/
namespace Go.Am

def dL (c : dN) (X : Nat -> Prop) (φ : de) (w : World) : Prop := ∀ g,bN (Rd X φ w) [] (.cX (c.gl g)) (.pointer (some ⟨g,0,none⟩))
theorem dL.m6 {c : dN} {X : Nat -> Prop} {φ φ' : de} {w w' : World} (h : dL c X φ w) (a : fB φ w φ' w') : dL c X φ' w' := fun g => (h g).mono a.rd (.refl _)

def Ok (P : Program) (X : Nat -> Prop) (φ : de) (w : World) (o : Oper) (a : Act) (v : AV) (H' : Heap) : Prop :=
 ∀ (K : Act -> World -> Prop) (Q : Exit -> Act -> World -> Prop),(∀ v' w' φ',bN (Rd X φ' w') φ' v v' -> b6 X φ' w' H' -> fB φ w φ' w' -> K (a.put o.dst v') w') -> o.wp P a w K Q

section
variable {P : Program} {c : dN} {X : Nat -> Prop} {φ : de} {w : World} {env : Env} {H : Heap} {a : Act} {o : Oper}

theorem Ok.value {v : AV} {v' : Value} {w' : World} {H' : Heap} {φ' : de} (hr : (execOp a.eval o).run P w = .ok (.value v') w') (r : bN (Rd X φ' w') φ' v v') (h : b6 X φ' w' H') (k : fB φ w φ' w') : Ok P X φ w o a v H' := by
 intro K Q hK;unfold Oper.wp;rw [hr];exact hK v' w' φ' r h k
theorem Ok.quiet {v : AV} {v' : Value} (hr : (execOp a.eval o).run P w = .ok (.value v') w) (r : bN (Rd X φ w) φ v v') (h : b6 X φ w H) : Ok P X φ w o a v H := Ok.value hr r h (.refl _ _)
theorem Ok.skip {w' : World} {H' : Heap} {φ' : de} (hr : (execOp a.eval o).run P w = .ok .skip w') (h : b6 X φ' w' H') (k : fB φ w φ' w') : Ok P X φ w o a .undef H' := by
 intro K Q hK;unfold Oper.wp;rw [hr];exact hK undef w' φ' (.undef _) h k

theorem I1 {R : Addr -> Value -> Prop} {ψ : de} {v : Value} {x : AV} (h : I2 v x = true) : bN R ψ x v := by
 unfold I2 at h;split at h
 ·simp at h; subst h; exact .bool _ _
 ·simp at h; obtain ⟨rfl,rfl⟩ := h; exact .int _ _ _
 ·exact .dc _
 ·exact .fi _
 ·exact .eV _
 ·rename_i vs;have : vs = #[] := by simpa using h
  subst this;exact .undef _
 ·cases h
theorem Bq {R : Addr -> Value -> Prop} {ψ : de} : ∀ {vs : List Value} {xs : List AV},pF vs xs = true -> xs.length = vs.length /\ ∀ (i : Nat) (x : AV) (v : Value),xs[i]? = some x -> vs[i]? = some v -> bN R ψ x v
 | [],[],_ => ⟨rfl,fun i x v hx => by simp at hx⟩
 | [],_ :: _,h => by simp [pF] at h
 | _ :: _,[],h => by simp [pF] at h
 | v :: r,x :: s,h => by
   simp only [pF,ab] at h;obtain ⟨hl,hm⟩ := Bq (R := R) (ψ := ψ) h.2;refine ⟨by simp [hl],fun i y u hy hu => ?_⟩;cases i with
   | zero => simp at hy hu; subst hy; subst hu; exact I1 h.1
   | succ i => simp at hy hu; exact hm i y u hy hu
theorem YD {R : Addr -> Value -> Prop} {ψ : de} {v : Value} {x : AV} (h : chkV v x = true) : bN R ψ x v := by
 unfold chkV at h;split at h
 ·rename_i cs ds;obtain ⟨hl,hm⟩ := Bq (R := R) (ψ := ψ) h;exact .agg _ _ _ (by simpa using hl) fun i x v hx hv => hm i x v hx (by simpa using hv)
 ·exact I1 h
theorem bM (he : nE X φ w env a.tmps) (hg : dL c X φ w) {x : Operand} {y : E} (h : cN x y = true) : bN (Rd X φ w) φ (ev c env y) (a.eval x) := by
 unfold cN at h;split at h
 ·simp at h; subst h; exact he _
 ·exact YD h
 ·simp at h; subst h;exact .func _ _ _ _ _ _ rfl rfl (fun i c v hc => by simp at hc) (fun i c v hc => by simp at hc)
 ·simp at h; subst h; exact (hg _).dA rfl _
 ·cases h

def pM (X : Nat -> Prop) (φ : de) (w : World) (xs : List AV) (vs : Array Value) : Prop := xs.length = vs.size /\ ∀ (i : Nat) (x : AV) (v : Value),xs[i]? = some x -> vs[i]? = some v -> bN (Rd X φ w) φ x v
theorem mU (he : nE X φ w env a.tmps) (hg : dL c X φ w) : ∀ {xs : List Operand} {ys : List E},iB xs ys = true ->
  (C6 c env ys).length = xs.length /\ ∀ (i : Nat) (x : AV) (v : Value),(C6 c env ys)[i]? = some x -> (xs.map a.eval)[i]? = some v -> bN (Rd X φ w) φ x v
 | [],[],_ => ⟨rfl,fun i x v hx => by simp [C6] at hx⟩
 | [],_ :: _,h => by simp [iB] at h
 | _ :: _,[],h => by simp [iB] at h
 | x :: r,y :: s,h => by
   simp only [iB,ab] at h;obtain ⟨hl,hm⟩ := mU he hg h.2;refine ⟨by simp [C6,hl],fun i z v hz hv => ?_⟩;cases i with
   | zero => simp [C6] at hz hv; subst hz; subst hv; exact bM he hg h.1
   | succ i => simp [C6] at hz; simp at hv; exact hm i z v hz (by simpa using hv)

/-! Places -/
def Ku (X : Nat -> Prop) (φ : de) (w : World) (cs : List AV) (ad : Addr) : Prop := ∀ (j : Nat) (x : AV),cs[j]? = some x -> ∃ u,w.cell? (ad.add j) = some u /\ bN (Rd X φ w) φ x u
theorem bN.Im {R : Addr -> Value -> Prop} {x : AV} {v : Value} (h : bN R [] x v) (φ : de) : bN R φ x v := h.mono (fun _ _ h => h) ⟨Nat.zero_le _,fun b p hb => by simp at hb⟩
theorem Ku.Se {cs : List AV} {v : Value} (h : bN (Rd X φ w) φ (.cX cs) v) : ∃ ad,v = .pointer (some ad) /\ Ku X φ w cs ad := by
 cases h with
 | cX _ _ ad u hu h => exact ⟨ad,rfl,fun j x hx => ⟨u j,(hu j x hx).2.2,(h j x hx).Im φ⟩⟩
theorem Ku.Ph (hh : b6 X φ w H) {b off : Nat} {cs : List AV} (hb : aH H b = some cs) {v : Value} (h : bN (Rd X φ w) φ (.ptr b off) v) :
  ∃ g sz arr e,v = .pointer (some ⟨g,off,none⟩) /\ φ[b]? = some (some (g,sz)) /\ w.heap[g]? = some (.cells arr e (0,0)) /\ arr.size = sz /\ cs.length <= sz /\ ¬ X g /\
   (∀ (i : Nat) (c : AV),cs[i]? = some c -> ∃ u,arr[i]? = some u /\ bN (Rd X φ w) φ c u) /\ Ku X φ w (cs.drop off) ⟨g,off,none⟩ := by
 obtain ⟨g,sz,arr,e,h1,h2,h3,h4,h5,h6⟩ := hh.at hb;cases h with
 | ptr _ _ _ ad On hp =>
   obtain rfl := hp g sz h1;refine ⟨g,sz,arr,e,rfl,h1,h2,h3,h4,h5,h6,fun j x hx => ?_⟩;rw [aV] at hx;obtain ⟨u,hu,r⟩ := h6 _ _ hx;exact ⟨u,by rw [Addr.iu,gL h2]; exact hu,r⟩
theorem Ku.values {cs : List AV} {ad : Addr} (h : Ku X φ w cs ad) : ∀ n,n <= cs.length -> ∃ vs : List Value,vs.length = n /\ (∀ (j : Nat) (v : Value),vs[j]? = some v -> w.cell? (ad.add j) = some v) /\
  ∀ (j : Nat) (x : AV) (v : Value),(cs.take n)[j]? = some x -> vs[j]? = some v -> bN (Rd X φ w) φ x v
 | 0,_ => ⟨[],rfl,fun j v hv => by simp at hv,fun j x v hx => by simp at hx⟩
 | n + 1,hn => by
   obtain ⟨vs,hl,h1,h2⟩ := Ku.values h n (by omega);obtain ⟨x,hx⟩ := bc (l := cs) (i := n) (by omega);obtain ⟨u,hu,r⟩ := h n x hx;refine ⟨vs ++ [u],by simp [hl],fun j v hv => ?_,fun j y v hy hv => ?_⟩
   ·by_cases hj : j < vs.length
    ·rw [av hj] at hv; exact h1 j v hv
    ·have bA := aB hv;simp at bA;have hje : j = n := by omega
     subst hje;rw [aQ (by omega)] at hv;simp [hl] at hv;subst hv;exact hu
   ·by_cases hj : j < vs.length
    ·rw [av hj] at hv;rw [aR (by omega)] at hy;exact h2 j y v (by rw [aR (by omega)]; exact hy) hv
    ·have bA := aB hv;simp at bA;have hje : j = n := by omega
     subst hje;rw [aQ (by omega)] at hv;simp [hl] at hv;subst hv;rw [aR (by omega),hx] at hy;simp at hy;subst hy;exact r

theorem uh {t : TypeId} {i : TypeInfo} (h : P.info? t = some i) : (typeInfo t).run P w = .ok i w := by simp [typeInfo,h]
theorem hZ {t : TypeId} {i : TypeInfo} (h : P.info? t = some i) : (sizeOf t).run P w = .ok i.size w := by simp [sizeOf,uh h]
theorem qQ {t : TypeId} {i : TypeInfo} {z : Value} (h : P.info? t = some i) (hz : i.zero = some z) : (zeroValue t).run P w = .ok z w := by simp [zeroValue,uh h,hz]

theorem Gw {t : TypeId} {k : Nat} (h : nD P t = some (some k)) : ∃ i,P.info? t = some i /\ i.size = k /\ (isAgg t).run P w = .ok true w := by
 unfold nD at h;split at h
 ·rename_i fs hu;split at h
  ·rename_i i hi;exact ⟨i,hi,by simpa using h,by simp [isAgg,run_underlying hu]⟩
  ·cases h
 ·rename_i n e hu;split at h
  ·rename_i i hi;exact ⟨i,hi,by simpa using h,by simp [isAgg,run_underlying hu]⟩
  ·cases h
 ·simp at h
 ·cases h
theorem th {t : TypeId} (h : nD P t = some none) : (isAgg t).run P w = .ok false w := by
 unfold nD at h;split at h
 ·split at h <;> simp at h
 ·split at h <;> simp at h
 ·rename_i d h1 h2 hu;simp only [isAgg,Sem.run_bind,run_underlying hu,Result.andThen_ok];rfl
 ·cases h
theorem JM {t : TypeId} {ag : Option Nat} (ha : nD P t = some ag) {cs : List AV} {x : AV} (hx : AE ag cs = some x) {ad : Addr} (hp : Ku X φ w cs ad) :
  ∃ v,(loadVar t ad).run P w = .ok v w /\ bN (Rd X φ w) φ x v := by
 cases ag with
 | some k =>
   obtain ⟨i,hi,hk,Ks⟩ := Gw (w := w) ha;simp only [AE] at hx;split at hx
   ·rename_i hle;simp at hx;subst hx;obtain ⟨vs,hl,h1,h2⟩ := hp.values k hle;have hlc := run_loadCells_list (P := P) w ad vs h1;refine ⟨.agg vs.toArray,?_,.agg _ _ _ (by simp [hl]; omega) fun i c v hc hv => h2 i c v hc (by simpa using hv)⟩;simp only [loadVar,Sem.run_bind,Ks,Result.andThen_ok,if_true,hZ hi,hk];rw [<- hl,hlc];simp
   ·cases hx
 | none =>
   have Ks := th (P := P) (w := w) ha;simp only [AE] at hx;cases cs with
   | nil => simp at hx
   | cons y r =>
     simp at hx;subst hx;obtain ⟨u,hu,r⟩ := hp 0 y rfl;rw [Addr.add_zero'] at hu;refine ⟨u,?_,r⟩;simp only [loadVar,Sem.run_bind,Ks,Result.andThen_ok,aX,if_false,run_load,hu]

theorem RY {t : TypeId} {ag : Option Nat} (ha : nD P t = some ag) {cs : List AV} {vs : Array Value} (hl : cs.length = vs.size)
  (hr : ∀ (i : Nat) (c : AV) (v : Value),cs[i]? = some c -> vs[i]? = some v -> bN (Rd X φ w) φ c v) {off : Nat} {x : AV} (hx : AE ag (cs.drop off) = some x) :
  ∃ v,(part t vs off).run P w = .ok v w /\ bN (Rd X φ w) φ x v := by
 cases ag with
 | some k =>
   obtain ⟨i,hi,hk,Ks⟩ := Gw (w := w) ha;simp only [AE] at hx;split at hx
   ·rename_i hle;simp at hx;subst hx;rw [cB] at hle;refine ⟨.agg (vs.extract off (off + k)),?_,.agg _ _ _ ?_ fun j c v hc hv => ?_⟩
    ·simp only [part,Sem.run_bind,Ks,Result.andThen_ok,if_true,hZ hi,hk,Sem.run_pure]
    ·simp only [bg,cB,Array.size_extract]; omega
    ·have hjk : j < k := by have := aB hc; simp only [bg] at this; omega
     rw [aR hjk,aV] at hc
     have hv' : vs[off + j]? = some v := by
      rw [Array.getElem?_extract] at hv;split at hv
      ·exact hv
      ·cases hv
     exact hr _ c v hc hv'
   ·cases hx
 | none =>
   have Ks := th (P := P) (w := w) ha;simp only [AE,List.head?_drop] at hx;have bA := aB hx;obtain ⟨v,hv⟩ := cP (l := vs) (i := off) (by omega);exact ⟨v,by simp only [part,Sem.run_bind,Ks,Result.andThen_ok,aX,if_false,hv,Sem.run_pure],hr off x v hx hv⟩

theorem gF {k : IntKind} {n : Int} {v : Value} (h : bN (Rd X φ w) φ (.int k n) v) : v = .int k n := by cases h; rfl
theorem nd {b : Bool} {v : Value} (h : bN (Rd X φ w) φ (.bool b) v) : v = .bool b := by cases h; rfl

theorem ZK {op : BinOp} {t : TypeId} {k k' : IntKind} {x y : Int} {r : AV} (h : jq op (.int k x) (.int k' y) = some r) :
  ∃ v,(binOp op t (.int k x) (.int k' y)).run P w = .ok v w /\ ∀ R ψ,bN R ψ r v := by
 cases op <;> simp only [jq,arith] at h
 case shl =>
  split at h
  ·cases h
  ·rename_i hn;simp at h; subst h;exact ⟨_,by simp [binOp,Op.shift,hn],fun _ _ => .int _ _ _⟩
 case shr =>
  split at h
  ·cases h
  ·rename_i hn;simp at h; subst h;exact ⟨_,by simp [binOp,Op.shift,hn],fun _ _ => .int _ _ _⟩
 all_goals
  split at h
  ·rename_i hk;subst hk
   first
    | (simp at h; subst h; first | exact ⟨_,by simp [go_sem],fun _ _ => .int _ _ _⟩ | exact ⟨_,by simp [go_sem],fun _ _ => .bool _ _⟩)
    | (split at h
       ·cases h
       ·rename_i hn;simp at h; subst h;exact ⟨_,by simp [go_sem,hn],fun _ _ => .int _ _ _⟩)
  ·cases h

theorem aaN {l : List Bool} {xs ys : List AV} {e : Bool} (h : zW (true :: l) xs ys = some e) :
  ∃ k a r b s e',xs = .int k a :: r /\ ys = .int k b :: s /\ zW l r s = some e' /\ e = (a == b && e') := by
 cases xs with
 | nil => simp [zW] at h
 | cons x r =>
   cases ys with
   | nil => cases x <;> simp [zW] at h
   | cons y s =>
     cases x <;> cases y <;> simp [zW] at h
     rename_i k a k' b;obtain ⟨rfl,h⟩ := h;split at h
     ·rename_i e' he;simp at h;exact ⟨k,a,r,b,s,e',rfl,rfl,he,h.symm⟩
     ·cases h
theorem Yl {l : List Bool} {xs ys : List AV} {e : Bool} (h : zW (false :: l) xs ys = some e) :
  ∃ a r b s e',xs = .bool a :: r /\ ys = .bool b :: s /\ zW l r s = some e' /\ e = (a == b && e') := by
 cases xs with
 | nil => simp [zW] at h
 | cons x r =>
   cases ys with
   | nil => cases x <;> simp [zW] at h
   | cons y s =>
     cases x <;> cases y <;> simp [zW] at h
     rename_i a b;split at h
     ·rename_i e' he;simp at h;exact ⟨a,r,b,s,e',rfl,rfl,he,h.symm⟩
     ·cases h
theorem yp (d : Nat) : ∀ (fs : List Field) (l : List Bool) (off : Nat) (xs ys : List AV) (vx vy : Array Value) (e : Bool),Bl P off fs l = true -> zW l (xs.drop off) (ys.drop off) = some e ->
  xs.length = vx.size -> ys.length = vy.size -> (∀ (i : Nat) (c : AV) (v : Value),xs[i]? = some c -> vx[i]? = some v -> bN (Rd X φ w) φ c v) ->
  (∀ (i : Nat) (c : AV) (v : Value),ys[i]? = some c -> vy[i]? = some v -> bN (Rd X φ w) φ c v) -> (Op.eqFields (d + 1) vx vy fs).run P w = .ok e w
 | [],[],off,xs,ys,vx,vy,e,_,he,_,_,_,_ => by
   generalize xs.drop off = a at he;generalize ys.drop off = b at he;cases a <;> cases b <;> simp [zW] at he
   subst he;rfl
 | [],_ :: _,_,_,_,_,_,_,h,_,_,_,_,_ => by simp [Bl] at h
 | _ :: _,[],_,_,_,_,_,_,h,_,_,_,_,_ => by simp [Bl] at h
 | f :: fs,b :: l,off,xs,ys,vx,vy,e,h,he,Cy,Cx,hx,hy => by
   simp only [Bl,ab,decide_eq_true_eq] at h;obtain ⟨⟨⟨UI,IC⟩,Kp⟩,XP⟩ := h;have ih := fun e he => yp d fs l (off + 1) xs ys vx vy e XP he Cy Cx hx hy
   have cell : ∀ (zs : List AV) (vz : Array Value) (z : AV) (r : List AV),zs.length = vz.size -> zs.drop off = z :: r -> (∃ v,vz[off]? = some v) /\ zs[off]? = some z /\ zs.drop (off + 1) = r := by
    intro zs vz z r hl hd
    have h0 : zs[off]? = some z := by
     have h := congrArg (·[0]?) hd;simp only [aV,List.getElem?_cons_zero,GJ] at h;exact h
    refine ⟨cP (by have := aB h0; omega),h0,?_⟩;rw [<- List.tail_drop,hd]; rfl
   split at Kp
   ·rename_i k hu;subst Kp;have Ks : nD P f.type = some none := by simp [nD,hu]
    have hna := th (P := P) (w := w) Ks;obtain ⟨kx,a,r,b',s,e',hdx,hdy,hee,rfl⟩ := aaN he;obtain ⟨⟨vx0,hvx⟩,Bb,IA⟩ := cell xs vx _ _ Cy hdx;obtain ⟨⟨vy0,hvy⟩,hy0,hy1⟩ := cell ys vy _ _ Cx hdy;obtain rfl := gF (hx off _ vx0 Bb hvx);obtain rfl := gF (hy off _ vy0 hy0 hvy);have ih' := ih e' (by rw [IA,hy1]; exact hee);simp only [Op.eqFields,IC,ne_eq,not_false_eq_true,if_true,part,Sem.run_bind,hna,Result.andThen_ok,aX,if_false,UI,hvx,hvy,Sem.run_pure,run_equalIn_int w d f.type kx k a b' hu];cases hab : (a == b') <;> simp [ih']
   ·rename_i hu;simp only [bt] at Kp;subst Kp;have Ks : nD P f.type = some none := by simp [nD,hu]
    have hna := th (P := P) (w := w) Ks;obtain ⟨a,r,b',s,e',hdx,hdy,hee,rfl⟩ := Yl he;obtain ⟨⟨vx0,hvx⟩,Bb,IA⟩ := cell xs vx _ _ Cy hdx;obtain ⟨⟨vy0,hvy⟩,hy0,hy1⟩ := cell ys vy _ _ Cx hdy;obtain rfl := nd (hx off _ vx0 Bb hvx);obtain rfl := nd (hy off _ vy0 hy0 hvy);have ih' := ih e' (by rw [IA,hy1]; exact hee);simp only [Op.eqFields,IC,ne_eq,not_false_eq_true,if_true,part,Sem.run_bind,hna,Result.andThen_ok,aX,if_false,UI,hvx,hvy,Sem.run_pure,run_equalIn_bool w d f.type a b' hu];cases hab : (a == b') <;> simp [ih']
   ·cases Kp
end
end Go.Am

/- What one operation of the dump does, continued: memory. -/
set_option linter.unusedSimpArgs false
namespace Go.Am
section
variable {P : Program} {c : dN} {X : Nat -> Prop} {φ : de} {w : World} {env : Env} {H : Heap} {a : Act} {o : Oper}

def Cs (X : Nat -> Prop) (φ : de) (w : World) (cs : List AV) (vs : List Value) : Prop := cs.length = vs.length /\ ∀ (i : Nat) (c : AV) (v : Value),cs[i]? = some c -> vs[i]? = some v -> bN (Rd X φ w) φ c v
theorem Cs.get {cs : List AV} {vs : List Value} (h : Cs X φ w cs vs) {i : Nat} {c : AV} (hc : cs[i]? = some c) : ∃ u,vs[i]? = some u /\ bN (Rd X φ w) φ c u := by
 obtain ⟨u,hu⟩ := bc (l := vs) (i := i) (h.1 ▸ aB hc);exact ⟨u,hu,h.2 i c u hc hu⟩
theorem Cs.append {cs ds : List AV} {vs us : List Value} (h : Cs X φ w cs vs) (k : Cs X φ w ds us) : Cs X φ w (cs ++ ds) (vs ++ us) := by
 refine ⟨by simp [h.1,k.1],fun i c v hc hv => ?_⟩;by_cases hi : i < cs.length
 ·rw [av hi] at hc;rw [av (h.1 ▸ hi)] at hv;exact h.2 i c v hc hv
 ·rw [aQ (by omega)] at hc;rw [aQ (by have := h.1; omega)] at hv;rw [h.1] at hc;exact k.2 _ c v hc hv
theorem Cs.take {cs : List AV} {vs : List Value} (h : Cs X φ w cs vs) (n : Nat) : Cs X φ w (cs.take n) (vs.take n) := by
 refine ⟨by simp [h.1],fun i c v hc hv => ?_⟩;have hi : i < n := by have := aB hc; simp at this; omega
 rw [aR hi] at hc hv;exact h.2 i c v hc hv
theorem Cs.drop {cs : List AV} {vs : List Value} (h : Cs X φ w cs vs) (n : Nat) : Cs X φ w (cs.drop n) (vs.drop n) := by
 refine ⟨by simp [h.1],fun i c v hc hv => ?_⟩;rw [aV] at hc hv;exact h.2 _ c v hc hv
theorem Cs.jf {cs ds : List AV} {vs us : List Value} (h : Cs X φ w cs vs) (k : Cs X φ w ds us) (off : Nat) : Cs X φ w (jf cs off ds) (vs.take off ++ us ++ vs.drop (off + us.length)) := by
 unfold Am.jf;rw [<- k.1];exact ((h.take off).append k).append (h.drop _)
theorem bN.cs {x : AV} {v : Value} (h : bN (Rd X φ w) φ x v) (hs : bm x.cells = true) : Cs X φ w x.cells v.cells.toList /\ ∀ u ∈ v.cells.toList,u.oneCell' = true := by
 obtain ⟨hl,hm⟩ := h.cells hs;refine ⟨⟨by simpa using hl,fun i c u hc hu => ?_⟩,fun u hu => ?_⟩
 ·obtain ⟨u',h1,h2,_⟩ := hm i c hc;simp at hu;rw [h1] at hu;simp at hu;subst hu;exact h2
 ·obtain ⟨i,hi⟩ := bD hu;obtain ⟨c,hc⟩ := bc (l := x.cells) (i := i) (by have := aB hi; simp at this; omega);obtain ⟨u',h1,_,h3⟩ := hm i c hc;simp at hi;rw [h1] at hi;simp at hi;subst hi;exact h3
theorem Cs.sR {cs : List AV} {vs : List Value} (h : Cs X φ w cs vs) (hl : bm cs = true) : ∀ u ∈ vs,u.oneCell' = true := by
 intro u hu;obtain ⟨i,hi⟩ := bD hu;obtain ⟨c,hc⟩ := bc (l := cs) (i := i) (by have := aB hi; have := h.1; omega);exact (h.2 i c u hc hi).sR (vh hl i c hc)
theorem qH {t : TypeId} {zs : List AV} (h : nI P t zs = true) : ∃ i z,P.info? t = some i /\ i.zero = some z /\ Cs X φ w zs z.cells.toList /\ bm zs = true := by
 unfold nI at h;split at h
 ·rename_i i hi;split at h
  ·rename_i z hz;simp only [ab] at h;exact ⟨i,z,hi,hz,Bq h.1,h.2⟩
  ·cases h
 ·cases h
theorem iA {t : TypeId} {k : Nat} (h : ir P t k = true) : ∃ e i z,P.underlying t = some (.slice e) /\ P.info? e = some i /\ i.size = k /\ 0 < k /\ i.bytes <= 1024 /\ i.zero = some z /\ z.cells.size = k := by
 unfold ir at h;split at h
 ·rename_i e hu;split at h
  ·rename_i i hi;simp only [ab,decide_eq_true_eq] at h;obtain ⟨⟨⟨h1,h2⟩,h3⟩,h4⟩ := h;split at h4
   ·rename_i z hz;exact ⟨e,i,z,hu,hi,h1,h2,h3,hz,by simpa using h4⟩
   ·cases h4
  ·cases h
 ·cases h

theorem sr (hh : b6 X φ w H) {arr : Array Value} {e : TypeId} {cs : List AV} {w1 : World} (hw : w1.heap = w.heap) (ho : w1.os = w.os) (ht : w1.tape = w.tape) (hp : w1.output = w.output)
  (hl : cs.length <= arr.size) (hc : ∀ (i : Nat) (c : AV),cs[i]? = some c -> ∃ u,arr[i]? = some u /\ bN (Rd X φ w) φ c u) (hd : w.drawn <= w1.drawn := by first | exact aS _ | exact Nat.le_succ _) :
  b6 X (φ ++ [some (w.heap.size,arr.size)]) (w1.alloc (.cells arr e)) (H ++ [some cs]) /\ fB φ w (φ ++ [some (w.heap.size,arr.size)]) (w1.alloc (.cells arr e)) :=
 hh.alloc (w' := w1.alloc (.cells arr e)) (e := e) (by simp [World.alloc,hw]) ho ht hp hl hc hd
theorem Cs.at {cs : List AV} {vs : List Value} {arr : Array Value} (h : Cs X φ w cs vs) (hv : ∀ (i : Nat) (u : Value),vs[i]? = some u -> arr[i]? = some u) : ∀ (i : Nat) (c : AV),cs[i]? = some c -> ∃ u,arr[i]? = some u /\ bN (Rd X φ w) φ c u := by
 intro i c hc;obtain ⟨u,hu,r⟩ := h.get hc;exact ⟨u,hv i u hu,r⟩
theorem Sl {R : Addr -> Value -> Prop} {n g sz : Nat} (hn : φ.length = n) : bN R (φ ++ [some (g,sz)]) (.ptr n 0) (.pointer (some ⟨g,0,none⟩)) := by
 refine .ptr _ _ _ _ (by simp [hn]) fun g' m9 h => ?_;subst hn;simp at h;rw [h.1]
theorem JK {R : Addr -> Value -> Prop} {n g sz k len cap : Nat} (hn : φ.length = n) (hc : len <= cap) (hs : cap * k <= sz) : bN R (φ ++ [some (g,sz)]) (.sl k n 0 len) (.slice (some ⟨g,0,none⟩) len cap) := by
 refine .sl _ _ _ _ _ _ _ (by simp [hn]) hc fun g' m9 h => ?_;subst hn;simp at h;obtain ⟨rfl,rfl⟩ := h;exact ⟨fun _ => rfl,by omega⟩
theorem Sk {R : Addr -> Value -> Prop} {ψ : de} {n g sz k len cap : Nat} (hn : ψ.length = n) (hc : len <= cap) (hs : cap * k <= sz) : bN R (ψ ++ [some (g,sz)]) (.sl k n 0 len) (.slice (some ⟨g,0,none⟩) len cap) := JK hn hc hs

theorem Pc {t : TypeId} {zs : List AV} (fe : o.op = .alloc t) (hh : b6 X φ w H) (hz : nI P t zs = true) : Ok P X φ w o a (.ptr H.length 0) (H ++ [some zs]) := by
 obtain ⟨i,z,hi,hz,dv,_⟩ := qH (X := X) (φ := φ) (w := w) hz;obtain ⟨h1,h2⟩ := sr hh (w1 := w) (arr := z.cells) (e := t) rfl rfl rfl rfl (by rw [dv.1]; simp) (dv.at (by simp));refine Ok.value ?_ (Sl hh.len) h1 h2;simp [execOp,fe,Instr.alloc,qQ hi hz,newVar,newRow]
theorem adw {t : TypeId} {x : Operand} {v : AV} (fe : o.op = .box t x) (hh : b6 X φ w H) (r : bN (Rd X φ w) φ v (a.eval x)) (hs : bm v.cells = true) :
  Ok P X φ w o a (.ptr H.length 0) (H ++ [some v.cells]) := by
 obtain ⟨dv,_⟩ := r.cs hs;obtain ⟨h1,h2⟩ := sr hh (w1 := w) (arr := (a.eval x).cells) (e := t) rfl rfl rfl rfl (by rw [dv.1]; simp) (dv.at (by simp));refine Ok.value ?_ (Sl hh.len) h1 h2;simp [execOp,fe,Instr.box,newVar,newRow]

theorem aeE {t : TypeId} {x : Operand} {y : E} {ag : Option Nat} {v : AV} {H' : Heap} {fl : Fp} {call : Nat -> List AV -> Heap -> Option (AV × Heap)} (fe : o.op = .load t x) (hh : b6 X φ w H) (r : bN (Rd X φ w) φ (ev c env y) (a.eval x))
  (ha : nD P t = some ag) (hs : fG c call env H (.ld ag y) = some (v,H',fl)) : Ok P X φ w o a v H' := by
 have go : ∀ {cs : List AV} {ad : Addr},a.eval x = .pointer (some ad) -> Ku X φ w cs ad -> AE ag cs = some v -> Ok P X φ w o a v H := by
  intro cs ad hx hp hv;obtain ⟨u,h1,h2⟩ := JM ha hv hp;exact Ok.quiet (by simp [execOp,fe,hx,Instr.loadAt,Instr.sureAddr,h1]) h2 hh
 simp only [fG] at hs;split at hs
 ·rename_i cs hc;split at hs
  ·rename_i u hu;simp at hs;obtain ⟨rfl,rfl,rfl⟩ := hs;rw [hc] at r;obtain ⟨ad,h1,h2⟩ := Ku.Se r;exact go h1 h2 hu
  ·cases hs
 ·rename_i b off hc;split at hs
  ·rename_i cs hb;split at hs
   ·rename_i u hu;simp at hs;obtain ⟨rfl,rfl,rfl⟩ := hs;rw [hc] at r;obtain ⟨g,sz,arr,e,h1,_,_,_,_,_,_,h2⟩ := Ku.Ph hh hb r;exact go h1 h2 hu
   ·cases hs
  ·cases hs
 ·cases hs

theorem fL {cs vs : List AV} {off : Nat} (h : off + vs.length <= cs.length) : (jf cs off vs).length = cs.length := by
 unfold jf;simp only [bu,bg,cB];omega
theorem ZC (l us : List Value) (off n i : Nat) (h : off + us.length <= n) (hn : n <= l.length) (hi : i < n) :
  (l.take off ++ us ++ l.drop (off + us.length))[i]? = ((l.take n).take off ++ us ++ (l.take n).drop (off + us.length))[i]? := by
 have e1 : (l.take off).length = off := by simp; omega
 have e2 : ((l.take n).take off).length = off := by simp; omega
 by_cases h1 : i < off
 ·rw [du,du,av (by omega),av (by omega),aR h1,aR h1,aR hi]
 ·by_cases h2 : i < off + us.length
  ·have f1 : i < (l.take off ++ us).length := by rw [bu,e1]; omega
   have f2 : i < ((l.take n).take off ++ us).length := by rw [bu,e2]; omega
   rw [av f1,av f2,aQ (by omega),aQ (by omega),e1,e2]
  ·have f1 : (l.take off ++ us).length = off + us.length := by rw [bu,e1]
   have f2 : ((l.take n).take off ++ us).length = off + us.length := by rw [bu,e2]
   rw [aQ (by omega),aQ (by omega),f1,f2,aV,aV,aR (by omega)]
theorem Dc (hh : b6 X φ w H) {b off : Nat} {cs : List AV} (hb : aH H b = some cs) {v : Value} (r : bN (Rd X φ w) φ (.ptr b off) v) {ds : List AV} {us : List Value} (dv : Cs X φ w ds us)
  (h1 : ∀ u ∈ us,u.oneCell' = true) (nr : off + ds.length <= cs.length) :
  ∃ g w',v = .pointer (some ⟨g,off,none⟩) /\ (storeCells ⟨g,off,none⟩ us).run P w = .ok () w' /\ b6 X φ w' (H.set b (some (jf cs off ds))) /\ fB φ w φ w' := by
 obtain ⟨g,sz,arr,e,rfl,kF,hg,nk,hle,hX,hm,_⟩ := Ku.Ph hh hb r;have Ak := run_storeCells_at P g off e us 0 arr w hg (by rw [<- dv.1]; omega) h1;simp only [GJ] at Ak
 have zN : (arr.toList.take off ++ us ++ arr.toList.drop (off + us.length)).toArray.size = arr.size := by
  simp only [qF,bu,bg,cB,om,<- dv.1]; omega
 have key : ∀ (i : Nat) (x : AV),(jf cs off ds)[i]? = some x -> ∃ u,(arr.toList.take off ++ us ++ arr.toList.drop (off + us.length)).toArray[i]? = some u /\ bN (Rd X φ w) φ x u := by
  intro i x hx
  have CD : Cs X φ w (cs.take cs.length) (arr.toList.take cs.length) := by
   refine ⟨by simp; omega,fun i c u hc hu => ?_⟩;have hi : i < cs.length := by have := aB hc; simp at this; omega
   rw [aR hi] at hc hu;obtain ⟨u',h1,h2⟩ := hm i c hc;simp at hu;rw [h1] at hu;simp at hu;subst hu;exact h2
  rw [List.take_length] at CD;have hov := CD.jf dv off;obtain ⟨u,hu,r⟩ := hov.get hx;refine ⟨u,?_,r⟩;have hi : i < cs.length := by have := aB hx; rw [fL nr] at this; exact this
  have hul := dv.1;simp only [vq];rw [<- hu];exact ZC arr.toList us off cs.length i (by omega) (by simp; omega) hi
 obtain ⟨k1,k2⟩ := hh.store (cs' := jf cs off ds) (arr' := (arr.toList.take off ++ us ++ arr.toList.drop (off + us.length)).toArray) kF hg nk zN rfl hX
  (by rw [fL nr,zN]; omega) key
 exact ⟨g,_,rfl,Ak,k1,k2⟩
theorem WO {t : TypeId} {x y : Operand} {b off k : Nat} {cs : List AV} {v : AV} (fe : o.op = .store t x y) (hh : b6 X φ w H) (hb : aH H b = some cs) (hk : lI P t k = true)
  (rx : bN (Rd X φ w) φ (.ptr b off) (a.eval x)) (ry : bN (Rd X φ w) φ v (a.eval y)) (hl : v.cells.length = k) (nr : off + k <= cs.length) (hs : bm v.cells = true) :
  Ok P X φ w o a .undef (H.set b (some (jf cs off v.cells))) := by
 obtain ⟨dv,h1⟩ := ry.cs hs;obtain ⟨g,w',hx,Ak,k1,k2⟩ := Dc (P := P) hh hb rx dv h1 (by omega);refine Ok.skip ?_ k1 k2;unfold lI at hk;split at hk
 ·rename_i i hi;simp at hk;have nk : (a.eval y).cells.size = i.size := by have := dv.1; simp at this; omega
  simp [execOp,fe,hx,Instr.storeAt,Instr.sureAddr,storeVar,hZ hi,nk,Ak]
 ·cases hk

/-! Composite literals -/
theorem FE (off : Nat) : ∀ (l : List Value) (n : Nat) (arr : Array Value),
  ((l.zipIdx n).foldl (fun cs (p : Value × Nat) => cs.setIfInBounds (off + p.2) p.1) arr).size = arr.size /\
  (off + n + l.length <= arr.size -> ((l.zipIdx n).foldl (fun cs (p : Value × Nat) => cs.setIfInBounds (off + p.2) p.1) arr).toList = arr.toList.take (off + n) ++ l ++ arr.toList.drop (off + n + l.length))
 | [],n,arr => by simp
 | v :: r,n,arr => by
   simp only [List.zipIdx_cons,List.foldl_cons];obtain ⟨h1,h2⟩ := FE off r (n + 1) (arr.setIfInBounds (off + n) v);refine ⟨by rw [h1]; simp,fun nr => ?_⟩;simp only [c8] at nr;rw [h2 (by simp; omega)];apply cY;intro i;simp only [Array.toList_setIfInBounds,c8];by_cases h0 : i < off + n
   ·rw [av (by simp; omega),av (by simp; omega),av (by simp; omega),av (by simp; omega),
     aR (by omega),aR h0,jR (by omega)]
   ·by_cases h3 : i = off + n
    ·subst h3
     rw [av (by simp; omega),av (by simp; omega),av (by simp; omega),aQ (by simp; omega),
      aR (by omega),List.getElem?_set_self (by simp; omega)]
     have e1 : (arr.toList.take (off + n)).length = off + n := by simp; omega
     rw [e1]; simp
    ·by_cases h4 : i < off + n + (r.length + 1)
     ·rw [av (by simp; omega),aQ (by simp; omega),av (by simp; omega),aQ (by simp; omega)];have e1 : (arr.toList.take (off + n)).length = off + n := by simp; omega
      have e2 : ((arr.toList.set (off + n) v).take (off + (n + 1))).length = off + n + 1 := by simp; omega
      rw [e1,e2,show i - (off + n) = (i - (off + n + 1)) + 1 by omega,jb]
     ·rw [aQ (by simp; omega),aQ (by simp; omega),aV,aV,jR (by simp; omega)];congr 1;simp only [bu,bg,List.length_set,om,c8];omega
theorem UX (v : Value) (off : Nat) (arr : Array Value) (h : off + v.cells.size <= arr.size) :
  (v.cells.zipIdx.foldl (fun cs (p : Value × Nat) => cs.setIfInBounds (off + p.2) p.1) arr).toList = arr.toList.take off ++ v.cells.toList ++ arr.toList.drop (off + v.cells.toList.length) := by
 have h2 := (FE off v.cells.toList 0 arr).2 (by simpa using h);rw [<- Array.foldl_toList,Array.toList_zipIdx];simpa using h2
theorem qh (he : nE X φ w env a.tmps) (hg : dL c X φ w) {place : Nat -> Option (Nat × Nat)} : ∀ {ps : List (Nat × Operand)} {qs : List (Nat × Nat × E)} {zs cs : List AV} {arr : Array Value},
  pG place ps qs = true -> Cs X φ w zs arr.toList -> nv c env zs qs = some cs -> ∃ arr',Instr.fill place arr (ps.map fun p => (p.1,a.eval p.2)) = some arr' /\ Cs X φ w cs arr'.toList
 | [],[],zs,cs,arr,_,hz,hf => by simp [nv] at hf; subst hf; exact ⟨arr,rfl,hz⟩
 | [],_ :: _,_,_,_,h,_,_ => by simp [pG] at h
 | _ :: _,[],_,_,_,h,_,_ => by simp [pG] at h
 | (i,x) :: r,(off,sz,y) :: s,zs,cs,arr,h,hz,hf => by
   simp only [pG,ab,decide_eq_true_eq] at h;obtain ⟨⟨hp,hx⟩,XP⟩ := h;simp only [nv] at hf;split at hf
   ·rename_i hc;obtain ⟨h1,h2,h3⟩ := hc;obtain ⟨dv,_⟩ := (bM he hg hx).cs h3;have nk : (a.eval x).cells.size = sz := by have := dv.1; simp at this; omega
    have Cv : zs.length = arr.size := by simpa using hz.1
    have aeK := UX (a.eval x) off arr (by omega)
    have Nj : Cs X φ w (jf zs off (ev c env y).cells) ((a.eval x).cells.zipIdx.foldl (fun cs (p : Value × Nat) => cs.setIfInBounds (off + p.2) p.1) arr).toList := by
     rw [aeK]; exact hz.jf dv off
    obtain ⟨arr',e1,e2⟩ := qh he hg XP Nj hf;refine ⟨arr',?_,e2⟩;simp only [iY,Instr.fill,hp];rw [if_neg (by simp [nk]; omega)];exact e1
   ·cases hf

theorem run_places (fs : List Field) (h : ∀ f ∈ fs,(P.info? f.type).isSome = true) :
  (fs.mapM (m := Sem) fun f => do pure (f.offset,<- sizeOf f.type)).run P w = .ok (fs.map fun f => (f.offset,((P.info? f.type).map (·.size)).getD 0)) w := by
 induction fs with
 | nil => rfl
 | cons f r ih =>
   obtain ⟨i,hi⟩ := aW.1 (h f (by simp));have ih' := ih fun g hg => h g (by simp [hg]);simp only [List.mapM_cons,Sem.run_bind,hZ hi,Result.andThen_ok,Sem.run_pure,ih',iY,hi,Option.map_some,Option.getD_some]
theorem WY {t : TypeId} {ps : Array (Nat × Operand)} {qs : List (Nat × Nat × E)} {zs cs : List AV} (fe : o.op = .build t ps) (hh : b6 X φ w H) (he : nE X φ w env a.tmps) (hg : dL c X φ w)
  (hz : nI P t zs = true) (hu : (match P.underlying t with
  | some (.struct fs) => (fs.toList.all fun f => (P.info? f.type).isSome) && pG (p7 P fs) ps.toList qs
  | some (.array _ e) => match P.info? e with
    | some i => pG (fun j => some (j * i.size,i.size)) ps.toList qs
    | none => false
  | _ => false) = true) (hf : nv c env zs qs = some cs) : Ok P X φ w o a (.agg cs) H := by
 obtain ⟨i,z,hi,hz,dv,_⟩ := qH (X := X) (φ := φ) (w := w) hz;split at hu
 ·rename_i fs hut;simp only [ab,List.all_eq_true] at hu;obtain ⟨arr',e1,e2⟩ := qh he hg hu.2 dv hf;refine Ok.quiet (v' := .agg arr') ?_ (.agg _ _ _ (by simpa using e2.1) fun i c v hc hv => e2.2 i c v hc (by simpa using hv)) hh;have pR := run_places (P := P) (w := w) fs.toList hu.1
  have hpl2 : (fs.mapM (m := Sem) fun f => do pure (f.offset,<- sizeOf f.type)).run P w = .ok (fs.toList.map fun f => (f.offset,((P.info? f.type).map (·.size)).getD 0)).toArray w := by
   rw [<- wi (xs := fs),List.mapM_toArray];simp only [Sem.run_map,pR,Result.andThen_ok,wi]
  have adQ : (fun j => ((fs.toList.map fun f => (f.offset,((P.info? f.type).map (·.size)).getD 0)).toArray)[j]?) = p7 P fs := by
   funext j;simp only [vq,df,jh,p7];cases hfj : fs[j]? with
   | none => rfl
   | some f =>
     obtain ⟨i,hi⟩ := aW.1 (hu.1 f (Oz.2 (Array.mem_of_getElem? hfj)));simp [hi]
  simp only [execOp,fe,Instr.build,Sem.run_bind,qQ hi hz,Result.andThen_ok,run_underlying hut,hpl2,adQ];have : (Cm (fun x => (x.1,a.eval x.2)) ps).toList = ps.toList.map fun p => (p.1,a.eval p.2) := by simp
  simp only [this,e1,Sem.run_pure,Result.andThen_ok]
 ·rename_i n e hut;split at hu
  ·rename_i ie hie;obtain ⟨arr',e1,e2⟩ := qh he hg hu dv hf;refine Ok.quiet (v' := .agg arr') ?_ (.agg _ _ _ (by simpa using e2.1) fun i c v hc hv => e2.2 i c v hc (by simpa using hv)) hh;have : (Cm (fun x => (x.1,a.eval x.2)) ps).toList = ps.toList.map fun p => (p.1,a.eval p.2) := by simp
   simp only [execOp,fe,Instr.build,Sem.run_bind,qQ hi hz,Result.andThen_ok,run_underlying hut,hZ hie,this,e1,Sem.run_pure]
  ·cases hu
 ·cases hu

theorem QF (zs : List AV) : ∀ (n i : Nat),i < n * zs.length -> (rep zs n)[i]? = zs[i % zs.length]?
 | 0,i,h => by simp at h
 | n + 1,i,h => by
   rw [rep];by_cases hi : i < zs.length
   ·rw [av hi,Nat.mod_eq_of_lt hi]
   ·rw [aQ (by omega),QF zs n _ (by rw [bV] at h; omega),<- Nat.mod_eq_sub_mod (by omega)]
theorem kb (zs : List AV) : ∀ n,(rep zs n).length = n * zs.length
 | 0 => by simp [rep]
 | n + 1 => by rw [rep,bu,kb zs n,bV]; omega
theorem Wa {zs : List AV} (h : bm zs = true) : ∀ n,bm (rep zs n) = true := by
 have app : ∀ {a b : List AV},bm a = true -> bm b = true -> bm (a ++ b) = true := by
  intro a
  induction a with
  | nil => intro b _ hb; exact hb
  | cons x r ih => intro b ha hb; simp only [bm,ab,List.cons_append] at *; exact ⟨ha.1,ih ha.2 hb⟩
 intro n
 induction n with
 | zero => rfl
 | succ n ih => exact app h ih
theorem OS {zs : List AV} {z : Array Value} (h : Cs X φ w zs z.toList) {n m : Nat} (hm : n * z.size <= m) {arr : Array Value} (hz : arr.size = m) (ha : ∀ i,i < m -> arr[i]? = some (z[i % z.size]!)) :
  ∀ (i : Nat) (c : AV),(rep zs n)[i]? = some c -> ∃ u,arr[i]? = some u /\ bN (Rd X φ w) φ c u := by
 intro i c hc;have Cv : zs.length = z.size := by simpa using h.1
 have hi : i < n * zs.length := by have := aB hc; rwa [kb] at this
 rw [QF zs n i hi] at hc;rw [Cv] at hc hi;refine ⟨_,ha i (by omega),?_⟩;obtain ⟨u,hu,r⟩ := h.get hc;simp at hu;rw [getElem!_def,hu];exact r
theorem Ue {t : TypeId} {n k : Nat} {ps : Array (Nat × Operand)} {qs : List (Nat × Nat × E)} {zs cs : List AV} (fe : o.op = .buildSlice t n ps) (hh : b6 X φ w H) (he : nE X φ w env a.tmps) (hg : dL c X φ w)
  (hk : ir P t k = true) (hz : gJ P t zs = true) (hn : n * k <= 16777216) (hq : pG (fun j => some (j * k,k)) ps.toList qs = true) (hf : nv c env (rep zs n) qs = some cs) :
  Ok P X φ w o a (.sl k H.length 0 n) (H ++ [some cs]) := by
 obtain ⟨e,i,z,hu,hi,vS,hk0,hby,Nh,Oj⟩ := iA hk;simp only [gJ,hu] at hz;obtain ⟨i',z',wV,GQ,dv,_⟩ := qH (X := X) (φ := φ) (w := w) hz;rw [hi] at wV;simp at wV;subst wV;rw [Nh] at GQ;simp at GQ;subst GQ;have Cv : zs.length = k := by have := dv.1; simp at this; omega
 have CD : Cs X φ w (rep zs n) ((wj (n * k)).map (z.cells[· % z.cells.size]!)).toList := by
  refine ⟨by rw [kb,Cv]; simp,fun j c v hc hv => ?_⟩;obtain ⟨u,h1,h2⟩ := OS dv (n := n) (m := n * k) (by rw [Oj]; omega) (arr := (wj (n * k)).map (z.cells[· % z.cells.size]!)) (by simp) (fun i hi => by simp [hi]) j c hc;rw [jh,h1] at hv;simp at hv;subst hv;exact h2
 obtain ⟨arr',e1,e2⟩ := qh he hg hq CD hf
 have nk : arr'.size = n * k := by
  have fl : ∀ {ps : List (Nat × Nat × E)} {zs cs : List AV},nv c env zs ps = some cs -> cs.length = zs.length := by
   intro ps
   induction ps with
   | nil => intro zs cs h; simp [nv] at h; rw [h]
   | cons p r ih =>
     intro zs cs h;obtain ⟨o,s,y⟩ := p;simp only [nv] at h;split at h
     ·rename_i hc; rw [ih h,fL (by omega)]
     ·cases h
  have h1 := fl hf;have h2 := e2.1;simp only [om] at h2;rw [<- h2,h1,kb,Cv]
 obtain ⟨h1,h2⟩ := sr hh (w1 := w) (arr := arr') (e := e) rfl rfl rfl rfl (by rw [e2.1]; simp) (e2.at (by simp));refine Ok.value ?_ (JK hh.len (aS n) (by omega)) h1 h2;have tT : (Cm (fun x => (x.1,a.eval x.2)) ps).toList = ps.toList.map fun p => (p.1,a.eval p.2) := by simp
 have Ol : ¬ (n * k > 2 ^ 24) := by have : (2:Nat) ^ 24 = 16777216 := by decide
                                    omega
 have hzero : (if n * i.size = 0 then (pure #[] : Sem (Array Value)) else do pure (<- zeroValue e).cells).run P w = .ok (if n * k = 0 then #[] else z.cells) w := by
  rw [vS];split <;> simp [qQ hi Nh]
 have adS : (wj (n * k)).map ((if n * k = 0 then #[] else z.cells)[· % (if n * k = 0 then #[] else z.cells).size]!) = (wj (n * k)).map (z.cells[· % z.cells.size]!) := by
  by_cases h0 : n * k = 0
  ·simp [h0]
  ·simp [h0]
 simp only [execOp,fe,Instr.buildSlice,Sem.run_bind,run_underlying hu,Result.andThen_ok,hZ hi,vS,Sem.run_ite,Ol,if_false];rw [vS] at hzero;simp only [Sem.run_ite,Sem.run_bind,Sem.run_pure,qQ hi Nh,Result.andThen_ok] at hzero ⊢;have e1' := e1;rw [<- adS,<- tT] at e1';split
 ·rename_i h0;simp only [h0,if_true] at e1' ⊢;simp only [Result.andThen_ok,Array.range_zero',Array.map_empty] at e1' ⊢;rw [show (Instr.fill (fun i => some (i * k,k)) #[] (Cm (fun x => (x.1,a.eval x.2)) ps).toList) = some arr' from e1'];simp [newRow]
 ·rename_i h0;simp only [h0,if_false,Result.andThen_ok] at e1' ⊢;rw [show (Instr.fill (fun i => some (i * k,k)) ((wj (n * k)).map (z.cells[· % z.cells.size]!)) (Cm (fun x => (x.1,a.eval x.2)) ps).toList) = some arr' from e1'];simp [newRow]
end
end Go.Am

/- What one operation of the dump does: numbers, tests, slices, append. -/
namespace Go.Am
section
variable {P : Program} {c : dN} {X : Nat -> Prop} {φ : de} {w : World} {env : Env} {H : Heap} {a : Act} {o : Oper}

theorem aab {x y z : Operand} {t : Bool} {u v : AV} (fe : o.op = .pick x y z) (hh : b6 X φ w H) (r : bN (Rd X φ w) φ (.bool t) (a.eval x)) (ru : bN (Rd X φ w) φ u (a.eval y)) (rv : bN (Rd X φ w) φ v (a.eval z)) :
  Ok P X φ w o a (if t then u else v) H := by
 have hx := nd r;cases t
 ·exact Ok.quiet (v' := a.eval z) (by simp [execOp,fe,hx,asBool]) (by simpa using rv) hh
 ·exact Ok.quiet (v' := a.eval y) (by simp [execOp,fe,hx,asBool]) (by simpa using ru) hh
theorem adx {op : BinOp} {t t' : TypeId} {x y : Operand} {u v r : AV} (fe : o.op = .binOp op t x y t') (hh : b6 X φ w H) (ru : bN (Rd X φ w) φ u (a.eval x)) (rv : bN (Rd X φ w) φ v (a.eval y)) (hr : jq op u v = some r) :
  Ok P X φ w o a r H := by
 have wU := hr;unfold jq at wU;split at wU
 ·rename_i k n k' n';have hx := gF ru;have hy := gF rv;obtain ⟨v',h1,h2⟩ := ZK (P := P) (w := w) (t := t) hr;exact Ok.quiet (v' := v') (by simp [execOp,fe,hx,hy,eqGuard_at_int,h1]) (h2 _ _) hh
 ·cases wU

theorem OQ (d : Nat) {t e : TypeId} (h : P.underlying t = some (.slice e)) (x : Option Addr) (n m : Nat) : (Op.equalIn (d + 1) t (.slice x n m) (.slice none 0 0)).run P w = .ok x.isNone w := by
 cases x <;> simp [Op.equalIn,run_underlying h]
theorem KJ (d : Nat) {t e : TypeId} (h : P.underlying t = some (.pointer e)) (x : Option Addr) : (Op.equalIn (d + 1) t (.pointer x) (.pointer none)).run P w = .ok x.isNone w := by
 cases x <;> simp [Op.equalIn,run_underlying h]
theorem OR (d : Nat) {t : TypeId} {ps rs : Array TypeId} {vr : Bool} (h : P.underlying t = some (.func ps rs vr)) (f : Fn) (x y : Array Value) : (Op.equalIn (d + 1) t (.func f x y) .nilFunc).run P w = .ok false w := by
 simp [Op.equalIn,run_underlying h]
theorem KK (d : Nat) {t : TypeId} {ps rs : Array TypeId} {vr : Bool} (h : P.underlying t = some (.func ps rs vr)) : (Op.equalIn (d + 1) t .nilFunc .nilFunc).run P w = .ok true w := by
 simp [Op.equalIn,run_underlying h]
theorem ZJ {op : BinOp} {ng : Bool} {t : TypeId} {x y : Operand} {u v : Value} {e : Bool} (ho : eqOp op ng = true) (hg : (eqGuard op t x y u v).run P w = .ok () w) (hb : ∀ op',binOp .eql t u v = (do pure (.bool (<- Op.equal t u v))) /\ (op' = BinOp.neq -> binOp .neq t u v = (do pure (.bool (!(<- Op.equal t u v))))))
  (h : (Op.equalIn 10000 t u v).run P w = .ok e w) : (do eqGuard op t x y u v; binOp op t u v).run P w = .ok (.bool (if ng then !e else e)) w := by
 have h' : (Op.equal t u v).run P w = .ok e w := by unfold Op.equal Op.maxDepth; exact h
 cases op <;> simp [eqOp] at ho
 ·subst ho;simp only [Sem.run_bind,hg,Result.andThen_ok,(hb .eql).1,h',Sem.run_pure];simp
 ·subst ho;simp only [Sem.run_bind,hg,Result.andThen_ok,(hb .neq).2 rfl,h',Sem.run_pure];simp
theorem ok_eq {op : BinOp} {ng : Bool} {et : Et} {t t' : TypeId} {x y : Operand} {u v : AV} {e : Bool} (fe : o.op = .binOp op t x y t') (hh : b6 X φ w H) (ho : eqOp op ng = true) (hc : F6 P t et = true) (ru : bN (Rd X φ w) φ u (a.eval x)) (rv : bN (Rd X φ w) φ v (a.eval y)) (hr : UY et u v = some e) :
  Ok P X φ w o a (.bool (if ng then !e else e)) H := by
 have fin : ∀ {p q : Value},a.eval x = p -> a.eval y = q -> (eqGuard op t x y p q).run P w = .ok () w ->
   (∀ op',binOp .eql t p q = (do pure (.bool (<- Op.equal t p q))) /\ (op' = BinOp.neq -> binOp .neq t p q = (do pure (.bool (!(<- Op.equal t p q)))))) -> (Op.equalIn 10000 t p q).run P w = .ok e w ->
   Ok P X φ w o a (.bool (if ng then !e else e)) H := by
  intro p q hp hq hg hb h;have := ZJ (x := x) (y := y) ho hg hb h;refine Ok.quiet ?_ (.bool _ _) hh;simp only [execOp,fe,hp,hq,Sem.run_bind,Result.andThen_ok,Sem.run_pure] at this ⊢;rw [this];rfl
 unfold UY at hr;split at hr
 ·rename_i b b';simp at hr;subst hr;have hx := nd ru;have hy := nd rv;simp only [F6] at hc;split at hc
  ·rename_i hu;refine fin hx hy (by rw [eqGuard_at_bool]; rfl) (fun _ => ⟨by simp [binOp],fun _ => by simp [binOp]⟩) ?_;exact run_equalIn_bool w 9999 t b b' hu
  ·cases hc
 ·rename_i l xs ys;generalize hx : a.eval x = p at ru;generalize hy : a.eval y = q at rv;cases ru with
  | agg _ _ vx Cy hrx =>
    cases rv with
    | agg _ _ vy Cx hry =>
      simp only [F6] at hc;split at hc
      ·rename_i fs hu;simp only [ab,bt] at hc;obtain ⟨⟨SV,Kr⟩,hc3⟩ := hc;have hfo : P.fieldsOf t = fs := by simp [Program.fieldsOf,hu]
       refine fin hx hy (run_eqGuard_agg w op t x y vx vy Kr) (fun _ => ⟨by simp [binOp],fun _ => by simp [binOp]⟩) ?_;rw [show (10000 : Nat) = 9999 + 1 from rfl,run_equalIn_struct w 9999 t vx vy (by rw [hu,hfo]) SV,hfo];exact yp 9998 fs.toList l 0 xs ys vx vy e hc3 (by simpa using hr) Cy Cx hrx hry
      ·cases hc
 ·generalize hy : a.eval y = q at rv;cases rv;simp only [F6] at hc;split at hc
  ·rename_i el hu
   have sl : ∀ {ad : Option Addr} {n m : Nat},a.eval x = .slice ad n m -> ad.isNone = e -> Ok P X φ w o a (.bool (if ng then !e else e)) H := by
    intro ad n m hx he;subst he;exact fin hx hy (by rw [eqGuard_at_slice]; rfl) (fun _ => ⟨by simp [binOp],fun _ => by simp [binOp]⟩) (OQ 9999 hu ad n m)
   generalize hx : a.eval x = p at ru;cases ru <;> simp [isNil] at hr
   case dc => exact sl hx (by simpa using hr)
   case sl => exact sl hx (by simpa using hr)
   case tS xs _ _ _ _ _ _ _ _ _ =>
    cases xs <;> simp [isNil] at hr
    exact sl hx (by simpa using hr)
  ·cases hc
 ·generalize hy : a.eval y = q at rv;cases rv;simp only [F6] at hc;split at hc
  ·rename_i el hu
   have pt : ∀ {ad : Option Addr},a.eval x = .pointer ad -> ad.isNone = e -> Ok P X φ w o a (.bool (if ng then !e else e)) H := by
    intro ad hx he;subst he;exact fin hx hy (by rw [eqGuard_at_pointer]; rfl) (fun _ => ⟨by cases ad <;> simp [binOp],fun _ => by cases ad <;> simp [binOp]⟩) (KJ 9999 hu ad)
   generalize hx : a.eval x = p at ru;cases ru <;> simp [isNil] at hr
   case fi => exact pt hx (by simpa using hr)
   case ptr => exact pt hx (by simpa using hr)
   case cX => exact pt hx (by simpa using hr)
  ·cases hc
 ·generalize hy : a.eval y = q at rv;cases rv;simp only [F6] at hc;split at hc
  ·rename_i ps rs vr hu;generalize hx : a.eval x = p at ru;cases ru <;> simp [isNil] at hr
   case eV => subst hr; exact fin hx hy (by rw [eqGuard_at_nilFunc]; rfl) (fun _ => ⟨by simp [binOp],fun _ => by simp [binOp]⟩) (KK 9999 hu)
   case func => subst hr; exact fin hx hy (by rw [eqGuard_at_func]; rfl) (fun _ => ⟨by simp [binOp],fun _ => by simp [binOp]⟩) (OR 9999 hu _ _ _)
  ·cases hc
 ·cases hr
theorem aeD {op : UnOp} {t : TypeId} {x : Operand} {u r : AV} (fe : o.op = .unOp op t x) (hh : b6 X φ w H) (ru : bN (Rd X φ w) φ u (a.eval x)) (hr : OC op u = some r) : Ok P X φ w o a r H := by
 unfold OC at hr;split at hr
 ·have hx := gF ru;simp at hr; subst hr;exact Ok.quiet (v' := .int _ _) (by simp [execOp,fe,hx,Op.unary,Op.intArith]) (.int _ _ _) hh
 ·have hx := gF ru;simp at hr; subst hr;exact Ok.quiet (by simp [execOp,fe,hx,Op.unary,intBits_xor]) (.int _ _ _) hh
 ·have hx := nd ru;simp at hr; subst hr;exact Ok.quiet (by simp [execOp,fe,hx,Op.unary]) (.bool _ _) hh
 ·cases hr
theorem adt {s d : TypeId} {x : Operand} {k k' : IntKind} {n : Int} (fe : o.op = .convert s d x) (hh : b6 X φ w H) (hs : (P.underlying s).isSome = true) (hd : P.underlying d = some (.int k)) (ru : bN (Rd X φ w) φ (.int k' n) (a.eval x)) :
  Ok P X φ w o a (.int k (k.wrap n)) H := by
 have hx := gF ru;obtain ⟨d',hd'⟩ := aW.mp hs;exact Ok.quiet (by simp [execOp,fe,hx,convert,run_underlying hd',run_underlying hd,Conv.intToInt]) (.int _ _ _) hh
theorem adh {fn : Fn} {as bs : Array Operand} {xs ys : List E} (fe : o.op = .makeFunc fn as bs) (hh : b6 X φ w H) (he : nE X φ w env a.tmps) (hg : dL c X φ w) (ha : iB as.toList xs = true) (hb : iB bs.toList ys = true) :
  Ok P X φ w o a (.func fn (C6 c env xs) (C6 c env ys)) H := by
 obtain ⟨l1,h1⟩ := mU he hg ha;obtain ⟨l2,h2⟩ := mU he hg hb;refine Ok.quiet (v' := .func fn (as.map a.eval) (bs.map a.eval)) (by simp [execOp,fe,Instr.makeFunc]) (.func _ _ _ _ _ _ (by simp [l1]) (by simp [l2]) (fun i c v hc hv => h1 i c v hc ?_) (fun i c v hc hv => h2 i c v hc ?_)) hh
 ·simpa using hv
 ·simpa using hv
theorem adg {t : TypeId} {k : Nat} {zs : List AV} {x y : Operand} {k1 k2 : IntKind} {l cp : Int} (fe : o.op = .makeSlice t x y) (hh : b6 X φ w H) (hk : ir P t k = true) (hz : gJ P t zs = true)
  (rx : bN (Rd X φ w) φ (.int k1 l) (a.eval x)) (ry : bN (Rd X φ w) φ (.int k2 cp) (a.eval y)) (h0 : 0 <= l) (h1 : l <= cp) (h2 : cp <= (lz : Int)) :
  Ok P X φ w o a (.sl k H.length 0 l.toNat) (H ++ [some (rep zs l.toNat)]) := by
 obtain ⟨e,i,z,hu,hi,vS,hk0,hby,Nh,Oj⟩ := iA hk;simp only [gJ,hu] at hz;obtain ⟨i',z',wV,GQ,dv,_⟩ := qH (X := X) (φ := φ) (w := w) hz;rw [hi] at wV;simp at wV;subst wV;rw [Nh] at GQ;simp at GQ;subst GQ;have Cv : zs.length = k := by have := dv.1; simp at this; omega
 have hx := gF rx;have hy := gF ry;have hL : (lz : Int) = 4294967296 := rfl
 have hb : (i.bytes : Int) * cp <= 281474976710656 := by
  have h3 : (i.bytes : Int) * cp <= 1024 * 4294967296 := Int.mul_le_mul (by omega) (by omega) (by omega) (by omega);omega
 have nn := run_make (P := P) w t e i z hu hi Nh k1 k2 l cp h0 h1 hb (by omega);have hlc : l.toNat <= cp.toNat := by omega
 have hlk : l.toNat * k <= cp.toNat * k := bG _ hlc;have hms : (madeCells z.cells (cp.toNat * i.size)).size = cp.toNat * k := by rw [size_madeCells,vS]
 obtain ⟨q1,q2⟩ := sr hh (w1 := w) (arr := madeCells z.cells (cp.toNat * i.size)) (e := e) (cs := rep zs l.toNat) rfl rfl rfl rfl (by rw [kb,hms,Cv]; exact hlk)
  (OS dv (m := cp.toNat * k) (by rw [Oj]; exact hlk) hms (fun j hj => by rw [vS]; simp [madeCells,hj]))
 refine Ok.value (v' := .slice (some ⟨w.heap.size,0,none⟩) l.toNat cp.toNat) ?_ (JK hh.len hlc (by rw [hms]; exact aS _)) q1 q2;simp only [execOp,fe,hx,hy,Sem.run_bind,nn,Result.andThen_ok,Sem.run_pure]

theorem YO {x : AV} {hi n : Nat} (h : bnd x hi = some n) : ∃ k i,x = .int k i /\ 0 <= i /\ i <= (hi : Int) /\ n = i.toNat := by
 unfold bnd at h;split at h
 ·rename_i k i;split at h
  ·rename_i hc; simp at h; exact ⟨k,i,rfl,hc.1,hc.2,h.symm⟩
  ·cases h
 ·cases h
theorem uO {x : AV} {len j : Nat} (h : idx x len = some j) : ∃ k i,x = .int k i /\ 0 <= i /\ i < (len : Int) /\ j = i.toNat /\ j < len := by
 unfold idx at h;split at h
 ·rename_i k i;split at h
  ·rename_i hc; simp at h; exact ⟨k,i,rfl,hc.1,hc.2,h.symm,by omega⟩
  ·cases h
 ·cases h
theorem run_sliceBound {k : IntKind} {i : Int} {y : Nat} {cd : BoundsCode} (h0 : 0 <= i) (h1 : i <= (y : Int)) : (Instr.sliceBound (.int k i) y cd).run P w = .ok i.toNat w := by
 simp [Instr.sliceBound,asIntOf,h0,h1]
theorem ui (he : nE X φ w env a.tmps) (hg : dL c X φ w) {x : Operand} {y : E} {n m cap : Nat} {cd : BoundsCode} (hx : cN x y = true) (hn : n <= cap) (h : bnd (ev c env y) n = some m) :
  (Instr.sliceBound (a.eval x) cap cd).run P w = .ok m w /\ m <= n := by
 obtain ⟨k,i,e1,e2,e3,e4⟩ := YO h;have r := bM (a := a) he hg hx;rw [e1] at r;rw [gF r,e4];exact ⟨run_sliceBound e2 (by omega),by omega⟩
theorem Dw (he : nE X φ w env a.tmps) (hg : dL c X φ w) {lo hi : Option Operand} {lo' wV : Option E} {n cap h l : Nat} (hlo : pI lo lo' = true) (UN : pI hi wV = true) (hn : n <= cap)
  (hh : Ac c env n n wV = some h) (hl : Ac c env 0 h lo' = some l) : (Instr.sliceBounds true n cap (lo.map a.eval) (hi.map a.eval) none).run P w = .ok (l,h,cap) w /\ l <= h /\ h <= n := by
 cases lo <;> cases lo' <;> simp only [pI] at hlo <;> try (cases hlo; done)
 all_goals
  cases hi <;> cases wV <;> simp only [pI] at UN <;> try (cases UN; done)
 all_goals simp only [Ac] at hh hl
 ·simp at hh hl;subst hh; subst hl;exact ⟨by simp [Instr.sliceBounds],by omega,aS _⟩
 ·obtain ⟨h1,h2⟩ := ui (P := P) (cd := .sliceAcap) he hg UN hn hh;simp at hl;subst hl;exact ⟨by simp [Instr.sliceBounds,h1],by omega,h2⟩
 ·simp at hh;subst hh;obtain ⟨h1,h2⟩ := ui (P := P) (cd := .sliceB) he hg hlo (aS _) hl;exact ⟨by simp [Instr.sliceBounds,h1],h2,aS _⟩
 ·obtain ⟨h1,h2⟩ := ui (P := P) (cd := .sliceAcap) he hg UN hn hh;obtain ⟨h3,h4⟩ := ui (P := P) (cd := .sliceB) he hg hlo (aS _) hl;exact ⟨by simp [Instr.sliceBounds,h1,h3],h4,h2⟩
theorem ZH {t e : TypeId} {i : TypeInfo} (hu : P.underlying t = some (.slice e)) (hi : P.info? e = some i) {ad : Option Addr} {n cap l h : Nat} {lo wV : Option Value} (hb : (Instr.sliceBounds true n cap lo wV none).run P w = .ok (l,h,cap) w) :
  (Instr.sliceAt t (.slice ad n cap) lo wV none).run P w = .ok (.slice (if cap = l then ad else ad.map (·.add (l * i.size))) (h - l) (cap - l)) w := by
 simp only [Instr.sliceAt,Instr.slice,Sem.run_bind,run_underlying hu,Result.andThen_ok,hb,hZ hi,Sem.run_pure]
theorem ade {t : TypeId} {k : Nat} {x : Operand} {y : E} {lo hi : Option Operand} {lo' wV : Option E} {v : AV} {H' : Heap} {fl : Fp} {call : Nat -> List AV -> Heap -> Option (AV × Heap)} (fe : o.op = .slice t x lo hi none) (hh : b6 X φ w H) (he : nE X φ w env a.tmps) (hg : dL c X φ w)
  (hk : ir P t k = true) (hx : cN x y = true) (hlo : pI lo lo' = true) (UN : pI hi wV = true) (hs : fG c call env H (.Av k y lo' wV) = some (v,H',fl)) : Ok P X φ w o a v H' := by
 obtain ⟨e,i,z,hu,PH,vS,hk0,hby,Nh,Oj⟩ := iA hk;have r := bM (a := a) he hg hx;simp only [fG] at hs;split at hs
 case h_2 => cases hs
 rename_i n hn;split at hs
 case h_2 => cases hs
 rename_i h hhv;split at hs
 case h_2 => cases hs
 rename_i l hlv
 have fin : ∀ {ad : Option Addr} {cap : Nat},a.eval x = .slice ad n cap -> n <= cap -> l <= h -> h <= n -> (l <= h -> h <= n -> bN (Rd X φ w) φ v (.slice (if cap = l then ad else ad.map (·.add (l * k))) (h - l) (cap - l))) -> H' = H -> Ok P X φ w o a v H' := by
  intro ad cap Oo hnc _ _ hr hH;obtain ⟨h1,h2,h3⟩ := Dw (P := P) he hg hlo UN hnc hhv hlv;have := ZH (P := P) hu PH (ad := ad) h1;rw [vS] at this;subst hH;exact Ok.quiet (by simp only [execOp,fe,Oo,CJ,Sem.run_bind,this,Result.andThen_ok,Sem.run_pure]) (hr h2 h3) hh
 have le : ∀ cap,n <= cap -> l <= h /\ h <= n := fun cap hc => (Dw (P := P) he hg hlo UN hc hhv hlv).2;obtain ⟨hlh,hhn⟩ := le n (aS _);generalize hy : ev c env y = yv at hs r hn;cases yv <;> simp only [Xp,aj] at hn <;> try (cases hn; done)
 ·subst hn;simp at hs;obtain ⟨rfl,rfl,rfl⟩ := hs;generalize Oo : a.eval x = ax at r;cases r;have hh0 : h = 0 := by omega
  have hl0 : l = 0 := by omega
  subst hh0; subst hl0;exact fin Oo (aS _) (aS _) (aS _) (fun _ _ => by simp; exact .dc _) rfl
 ·rename_i k' xs;simp only at hs;split at hs
  case isFalse => cases hs
  rename_i sx;subst sx;simp at hs;obtain ⟨rfl,rfl,rfl⟩ := hs;generalize Oo : a.eval x = ax at r;cases r with
  | tS _ _ _ ad n' cap u Ol iZ Zk hur hr =>
    subst hn;subst Ol;refine fin Oo iZ hlh hhn (fun _ _ => ?_) rfl;have hlen : ((xs.take h).drop l).length = h - l := by simp; omega
    by_cases PJ : cap = l
    ·have h0 : (xs.take h).drop l = [] := eI (by omega);rw [if_pos PJ,h0];refine .tS _ _ _ _ _ _ u (by simp; omega) (by omega) (by simp) (fun i j x c hx => by simp at hx) (fun i j x c hx => by simp at hx)
    ·rw [if_neg PJ]
     have get : ∀ (i : Nat) (x : AV),((xs.take h).drop l)[i]? = some x -> xs[l + i]? = some x := by
      intro i x hx;rw [aV,bF] at hx;split at hx
      ·exact hx
      ·cases hx
     refine .tS _ _ _ _ _ _ (fun i j => u (l + i) j) hlen.symm (by omega) (fun x hx => ?_) (fun i j x c hx hc => ?_) (fun i j x c hx hc => hr (l + i) j x c (get i x hx) hc)
     ·obtain ⟨i,hi⟩ := bD hx;exact Zk x (List.mem_of_getElem? (get i x hi))
     ·have := hur (l + i) j x c (get i x hx) hc;rw [Addr.add_add]
      rwa [show l * k' + (i * k' + j) = (l + i) * k' + j by rw [bV]; omega]
  | jM =>
    simp at hn;subst hn;have hh0 : h = 0 := by omega
    have hl0 : l = 0 := by omega
    subst hh0; subst hl0;exact fin Oo (aS _) (aS _) (aS _) (fun _ _ => by simp; exact .jM _ _) rfl
 ·rename_i k' b off len;simp only at hs;split at hs
  case isFalse => cases hs
  rename_i sx;subst sx;simp at hs;obtain ⟨rfl,rfl,rfl⟩ := hs;subst hn;generalize Oo : a.eval x = ax at r;cases r with
  | sl _ _ _ _ _ ad cap hb hc hp =>
    refine fin Oo hc hlh hhn (fun _ _ => ?_) rfl;have e : (if cap = l then (some ad : Option Addr) else Option.map (·.add (l * k')) (some ad)) = some (if cap = l then ad else ad.add (l * k')) := by split <;> simp
    rw [e];refine .sl _ _ _ _ _ _ _ hb (by omega) fun g sz hg => ?_;obtain ⟨h1,h2⟩ := hp g sz hg;have hmul : l * k' + (cap - l) * k' = cap * k' := by rw [<- bV]; congr 1; omega
    refine ⟨fun h0 => ?_,by omega⟩;rw [if_neg (by omega),h1 (by omega),Addr.iu]

theorem Ku.drop {cs : List AV} {ad : Addr} (h : Ku X φ w cs ad) (n : Nat) : Ku X φ w (cs.drop n) (ad.add n) := by
 intro j x hx;rw [aV] at hx;rw [Addr.add_add];exact h _ _ hx
theorem IK {cs : List AV} {v : Value} (h : bN (Rd X φ w) φ (.cX cs) v) (n : Nat) : ∃ ad,v = .pointer (some ad) /\ bN (Rd X φ w) φ (.cX (cs.drop n)) (.pointer (some (ad.add n))) := by
 cases h with
 | cX _ _ ad u hu h =>
   refine ⟨ad,rfl,.cX _ _ _ (fun j => u (n + j)) (fun j c hc => ?_) (fun j c hc => ?_)⟩
   ·rw [aV] at hc;rw [Addr.add_add];exact hu _ _ hc
   ·rw [aV] at hc;exact h _ _ hc
theorem RU {b off : Nat} {v : Value} (h : bN (Rd X φ w) φ (.ptr b off) v) (n : Nat) : ∃ ad,v = .pointer (some ad) /\ bN (Rd X φ w) φ (.ptr b (off + n)) (.pointer (some (ad.add n))) := by
 cases h with
 | ptr _ _ _ ad hb h =>
   refine ⟨ad,rfl,.ptr _ _ _ _ hb fun g sz hg => ?_⟩;rw [h g sz hg,Addr.iu]

theorem V3 (he : nE X φ w env a.tmps) (hg : dL c X φ w) {hi : Option Operand} {wV : Option E} {n h : Nat} (UN : pI hi wV = true) (hh : Ac c env n n wV = some h) : (Instr.sliceBounds false n n none (hi.map a.eval) none).run P w = .ok (0,h,n) w /\ h <= n := by
 cases hi <;> cases wV <;> simp only [pI] at UN <;> try (cases UN; done)
 all_goals simp only [Ac] at hh
 ·simp at hh;subst hh;exact ⟨by simp [Instr.sliceBounds],aS _⟩
 ·obtain ⟨h1,h2⟩ := ui (P := P) (cd := .sliceAlen) he hg UN (aS _) hh;exact ⟨by simp [Instr.sliceBounds,h1],h2⟩
theorem adz {t : TypeId} {n : Nat} {x : Operand} {y : E} {hi : Option Operand} {wV : Option E} {v : AV} {H' : Heap} {fl : Fp} {call : Nat -> List AV -> Heap -> Option (AV × Heap)} (fe : o.op = .slice t x none hi none) (hh : b6 X φ w H) (he : nE X φ w env a.tmps) (hg : dL c X φ w) (UN : pI hi wV = true) (r : bN (Rd X φ w) φ (ev c env y) (a.eval x))
  (hk : (match P.underlying t with
  | some (.array n' e) => decide (n = n') && lI P e 1
  | _ => false) = true) (hs : fG c call env H (.I8 n y wV) = some (v,H',fl)) : Ok P X φ w o a v H' := by
 split at hk
 case h_2 => cases hk
 rename_i n' e hu;simp only [ab,decide_eq_true_eq] at hk;obtain ⟨rfl,nk⟩ := hk;unfold lI at nk;split at nk
 case h_2 => cases nk
 rename_i i PH;simp only [fG] at hs;split at hs
 case h_2 => cases hs
 rename_i m hm;obtain ⟨bd,C2⟩ := V3 (P := P) he hg UN hm;split at hs
 case h_3 => cases hs
 case h_2 =>
  rename_i b off hy;split at hs
  case h_2 => cases hs
  rename_i cs hb;split at hs
  case isFalse => cases hs
  rename_i hc;simp at hs;obtain ⟨rfl,rfl,rfl⟩ := hs;rw [hy] at r;generalize Oo : a.eval x = ax at r;cases r with
  | ptr _ _ _ ad On hp =>
    have e0 : (if n = 0 then ad else ad.add (0 * i.size)) = ad := by
     split
     ·rfl
     ·simp [Addr.add]
    have run : (execOp a.eval o).run P w = .ok (.value (.slice (some ad) m n)) w := by
     simp only [execOp,fe,Oo,CJ,Instr.sliceAt,Instr.sureAddr,Sem.run_bind,run_underlying hu,Result.andThen_ok,bd,hZ PH,Sem.run_pure,e0,Nat.sub_zero]
    refine Ok.quiet run ?_ hh;obtain ⟨g,sz,arr,e,h1,h2,h3,h4,_⟩ := hh.at hb;refine .sl _ _ _ _ _ _ _ On C2 fun g' m9 hg => ?_;rw [h1] at hg;simp only [aj,aF] at hg;obtain ⟨rfl,rfl⟩ := hg;exact ⟨fun _ => hp _ _ h1,by omega⟩
 rename_i cs hy;split at hs
 case isFalse => cases hs
 rename_i hc;obtain ⟨SV,rfl,Kr⟩ := hc;have hc : m <= cs.length /\ bm (cs.take m) = true := ⟨SV,Kr⟩;simp at hs;obtain ⟨rfl,rfl,rfl⟩ := hs;rw [hy] at r;generalize Oo : a.eval x = ax at r;cases r with
 | cX _ _ ad u Ft hr =>
   have e0 : (if m = 0 then ad else ad.add (0 * i.size)) = ad := by
    split
    ·rfl
    ·simp [Addr.add]
   have run : (execOp a.eval o).run P w = .ok (.value (.slice (some ad) m m)) w := by
    simp only [execOp,fe,Oo,CJ,Instr.sliceAt,Instr.sureAddr,Sem.run_bind,run_underlying hu,Result.andThen_ok,bd,hZ PH,Sem.run_pure,e0,Nat.sub_zero]
   refine Ok.quiet run ?_ hh
   have get : ∀ {k : Nat} {c : AV},(cs.take m)[k]? = some c -> cs[k]? = some c /\ c.leaf = true := by
    intro k c h;refine ⟨?_,vh hc.2 k c h⟩;rw [bF] at h;split at h
    ·exact h
    ·cases h
   have one : ∀ {c : AV},c.leaf = true -> c.cells = [c] := by
    intro c h;cases c <;> simp [AV.leaf] at h <;> rfl
   refine .tS _ 1 _ ad m m (fun k _ => u k) (by simp; omega) (aS _) (fun c hm => ?_) (fun k j c d h1 h2 => ?_) (fun k j c d h1 h2 => ?_)
   ·obtain ⟨k,hk⟩ := bD hm;rw [one (get hk).2]; rfl
   ·rw [one (get h1).2] at h2;cases j with
    | zero => simp at h2; subst h2; simpa using Ft k c (get h1).1
    | succ j => simp at h2
   ·rw [one (get h1).2] at h2;cases j with
    | zero => simp at h2; subst h2; exact hr k c (get h1).1
    | succ j => simp at h2
theorem adq {s : TypeId} {f off : Nat} {x : Operand} {y : E} {v : AV} {H' : Heap} {fl : Fp} {call : Nat -> List AV -> Heap -> Option (AV × Heap)} (fe : o.op = .fieldAddr s x f) (hh : b6 X φ w H) (r : bN (Rd X φ w) φ (ev c env y) (a.eval x))
  (hk : (match P.underlying s with
  | some (.struct fs) => match fs[f]? with
    | some fd => decide (fd.offset = off) && (match P.info? fd.type with
      | some i => decide (i.size ≠ 0)
      | none => false)
    | none => false
  | _ => false) = true) (hs : fG c call env H (.dt off y) = some (v,H',fl)) : Ok P X φ w o a v H' := by
 split at hk
 case h_2 => cases hk
 rename_i fs hu;split at hk
 case h_2 => cases hk
 rename_i fd hf;simp only [ab,decide_eq_true_eq] at hk;obtain ⟨UI,nk⟩ := hk;split at nk
 case h_2 => cases nk
 rename_i i hi;have hsz' : ¬ i.size = 0 := by simpa using nk
 have run : ∀ {ad : Addr},a.eval x = .pointer (some ad) -> (execOp a.eval o).run P w = .ok (.value (.pointer (some (ad.add off)))) w := by
  intro ad hx;simp only [execOp,fe,hx,Instr.fieldAt,Sem.run_bind,run_underlying hu,Result.andThen_ok,hf,Instr.sureAddr,Sem.run_pure,fieldPlace,hZ hi,hsz',if_false,UI]
 simp only [fG] at hs;split at hs
 ·rename_i b off' hy;simp at hs;obtain ⟨rfl,rfl,rfl⟩ := hs;rw [hy] at r;obtain ⟨ad,h1,h2⟩ := RU r off;exact Ok.quiet (run h1) h2 hh
 ·rename_i cs hy;simp at hs;obtain ⟨rfl,rfl,rfl⟩ := hs;rw [hy] at r;obtain ⟨ad,h1,h2⟩ := IK r off;exact Ok.quiet (run h1) h2 hh
 ·cases hs
theorem adp {s : TypeId} {f off : Nat} {ag : Option Nat} {x : Operand} {y : E} {v : AV} {H' : Heap} {fl : Fp} {call : Nat -> List AV -> Heap -> Option (AV × Heap)} (fe : o.op = .field s x f) (hh : b6 X φ w H) (r : bN (Rd X φ w) φ (ev c env y) (a.eval x))
  (hk : (match P.underlying s with
  | some (.struct fs) => match fs[f]? with
    | some fd => decide (fd.offset = off) && decide (nD P fd.type = some ag)
    | none => false
  | _ => false) = true) (hs : fG c call env H (.UW off ag y) = some (v,H',fl)) : Ok P X φ w o a v H' := by
 split at hk
 case h_2 => cases hk
 rename_i fs hu;split at hk
 case h_2 => cases hk
 rename_i fd hf;simp only [ab,decide_eq_true_eq] at hk;obtain ⟨UI,Ks⟩ := hk;simp only [fG] at hs;split at hs
 case h_2 => cases hs
 rename_i cs hy;split at hs
 case h_2 => cases hs
 rename_i u Ft;simp at hs;obtain ⟨rfl,rfl,rfl⟩ := hs;rw [hy] at r;generalize hx : a.eval x = ax at r;cases r with
 | agg _ _ vs hl hr =>
   obtain ⟨v',h1,h2⟩ := RY Ks hl hr Ft;refine Ok.quiet ?_ h2 hh;simp only [execOp,fe,hx,Instr.field,Sem.run_bind,run_underlying hu,Result.andThen_ok,hf,asAgg,Sem.run_pure,UI,h1]
theorem QB {t e : TypeId} {i : TypeInfo} (hu : P.underlying t = some (.slice e)) (hi : P.info? e = some i) {ad : Addr} {n cap : Nat} {k : IntKind} {j : Int} (h0 : 0 <= j) (h1 : j < (n : Int)) :
  (Instr.indexAt t (.slice (some ad) n cap) (.int k j)).run P w = .ok (.pointer (some (ad.add (j.toNat * i.size)))) w := by
 simp [Instr.indexAt,asIntOf,run_underlying hu,h0,h1,hZ hi]
theorem ZI {t e : TypeId} {i : TypeInfo} {n : Nat} (hu : P.underlying t = some (.array n e)) (hi : P.info? e = some i) {ad : Addr} {k : IntKind} {j : Int} (h0 : 0 <= j) (h1 : j < (n : Int)) :
  (Instr.indexAt t (.pointer (some ad)) (.int k j)).run P w = .ok (.pointer (some (ad.add (j.toNat * i.size)))) w := by
 simp [Instr.indexAt,asIntOf,Instr.sureAddr,run_underlying hu,h0,h1,hZ hi]
theorem adn {t : TypeId} {k : Nat} {x xi : Operand} {y yi : E} {v : AV} {H' : Heap} {fl : Fp} {call : Nat -> List AV -> Heap -> Option (AV × Heap)} (fe : o.op = .indexAddr t x xi) (hh : b6 X φ w H) (r : bN (Rd X φ w) φ (ev c env y) (a.eval x))
  (ri : bN (Rd X φ w) φ (ev c env yi) (a.eval xi)) (hk : ir P t k = true) (hs : fG c call env H (.gq k y yi) = some (v,H',fl)) : Ok P X φ w o a v H' := by
 obtain ⟨e,i,z,hu,PH,vS,hk0,hby,Nh,Oj⟩ := iA hk;simp only [fG] at hs;split at hs
 ·rename_i k' xs hy;split at hs
  case h_2 => cases hs
  rename_i j hj;obtain ⟨kk,ii,e1,e2,e3,e4,e5⟩ := uO hj;split at hs
  case isFalse => cases hs
  rename_i sx;subst sx;split at hs
  case h_2 => cases hs
  rename_i el hel;simp at hs;obtain ⟨rfl,rfl,rfl⟩ := hs;rw [e1] at ri;have XK := gF ri;rw [hy] at r;generalize hx : a.eval x = ax at r;cases r with
  | tS _ _ _ ad n cap u hn iZ Zk hur hr =>
    have nn := QB (P := P) (w := w) hu PH (ad := ad) (n := n) (cap := cap) (k := kk) e2 (by omega);refine Ok.quiet (v' := .pointer (some (ad.add (ii.toNat * i.size)))) (by simp only [execOp,fe,hx,XK,Sem.run_bind,nn,Result.andThen_ok,Sem.run_pure]) (.cX _ _ _ (fun m => u j m) (fun m c hc => ?_) (fun m c hc => hr j m el c hel hc)) hh;rw [Addr.add_add,vS,<- e4];exact hur j m el c hel hc
  | jM => simp at hel
 ·rename_i k' b off len hy;split at hs
  case h_2 => cases hs
  rename_i j hj;obtain ⟨kk,ii,e1,e2,e3,e4,e5⟩ := uO hj;split at hs
  case isFalse => cases hs
  rename_i sx;subst sx;simp at hs;obtain ⟨rfl,rfl,rfl⟩ := hs;rw [e1] at ri;have XK := gF ri;rw [hy] at r;generalize hx : a.eval x = ax at r;cases r with
  | sl _ _ _ _ _ ad cap hb hc hp =>
    have nn := QB (P := P) (w := w) hu PH (ad := ad) (n := len) (cap := cap) (k := kk) e2 (by omega);refine Ok.quiet (v' := .pointer (some (ad.add (ii.toNat * i.size)))) (by simp only [execOp,fe,hx,XK,Sem.run_bind,nn,Result.andThen_ok,Sem.run_pure]) (.ptr _ _ _ _ hb fun g sz hg => ?_) hh;rw [(hp g sz hg).1 (by omega),Addr.iu,vS,e4]
 ·cases hs
theorem adm {t : TypeId} {n k : Nat} {x xi : Operand} {y yi : E} {v : AV} {H' : Heap} {fl : Fp} {call : Nat -> List AV -> Heap -> Option (AV × Heap)} (fe : o.op = .indexAddr t x xi) (hh : b6 X φ w H) (r : bN (Rd X φ w) φ (ev c env y) (a.eval x))
  (ri : bN (Rd X φ w) φ (ev c env yi) (a.eval xi)) (hk : (match P.underlying t with
  | some (.array n' e) => decide (n = n') && lI P e k
  | _ => false) = true) (hs : fG c call env H (.SJ n k y yi) = some (v,H',fl)) : Ok P X φ w o a v H' := by
 split at hk
 case h_2 => cases hk
 rename_i n' e hu;simp only [ab,decide_eq_true_eq] at hk;obtain ⟨rfl,nk⟩ := hk;unfold lI at nk;split at nk
 case h_2 => cases nk
 rename_i i hi;have vS : i.size = k := by simpa using nk
 simp only [fG] at hs;split at hs
 case h_2 => cases hs
 rename_i j hj;obtain ⟨kk,ii,e1,e2,e3,e4,e5⟩ := uO hj;rw [e1] at ri;have XK := gF ri
 have run : ∀ {ad : Addr},a.eval x = .pointer (some ad) -> (execOp a.eval o).run P w = .ok (.value (.pointer (some (ad.add (j * k))))) w := by
  intro ad hx;have nn := ZI (P := P) (w := w) hu hi (ad := ad) (k := kk) e2 e3;simp only [execOp,fe,hx,XK,Sem.run_bind,nn,Result.andThen_ok,Sem.run_pure,vS,e4]
 split at hs
 ·rename_i b off hy;simp at hs;obtain ⟨rfl,rfl,rfl⟩ := hs;rw [hy] at r;obtain ⟨ad,h1,h2⟩ := RU r (j * k);exact Ok.quiet (run h1) h2 hh
 ·rename_i cs hy;simp at hs;obtain ⟨rfl,rfl,rfl⟩ := hs;rw [hy] at r;obtain ⟨ad,h1,h2⟩ := IK r (j * k);exact Ok.quiet (run h1) h2 hh
 ·cases hs
theorem aeF {t : TypeId} {n k : Nat} {ag : Option Nat} {x xi : Operand} {y yi : E} {v : AV} {H' : Heap} {fl : Fp} {call : Nat -> List AV -> Heap -> Option (AV × Heap)} (fe : o.op = .index t x xi) (hh : b6 X φ w H) (r : bN (Rd X φ w) φ (ev c env y) (a.eval x))
  (ri : bN (Rd X φ w) φ (ev c env yi) (a.eval xi)) (hk : (match P.underlying t with
  | some (.array n' e) => decide (n = n') && lI P e k && decide (nD P e = some ag)
  | _ => false) = true) (hs : fG c call env H (.ix n k ag y yi) = some (v,H',fl)) : Ok P X φ w o a v H' := by
 split at hk
 case h_2 => cases hk
 rename_i n' e hu;simp only [ab,decide_eq_true_eq] at hk;obtain ⟨⟨rfl,nk⟩,Ks⟩ := hk;unfold lI at nk;split at nk
 case h_2 => cases nk
 rename_i i hi;have vS : i.size = k := by simpa using nk
 simp only [fG] at hs;split at hs
 case h_2 => cases hs
 rename_i j hj;obtain ⟨kk,ii,e1,e2,e3,e4,e5⟩ := uO hj;rw [e1] at ri;have XK := gF ri;split at hs
 case h_2 => cases hs
 rename_i cs hy;split at hs
 case h_2 => cases hs
 rename_i u Ft;simp at hs;obtain ⟨rfl,rfl,rfl⟩ := hs;rw [hy] at r;generalize hx : a.eval x = ax at r;cases r with
 | agg _ _ vs hl hr =>
   obtain ⟨v',h1,h2⟩ := RY Ks hl hr Ft;refine Ok.quiet ?_ h2 hh;rw [e4] at h1;simp only [execOp,fe,hx,XK,Instr.index,asIntOf,Sem.run_bind,Sem.run_pure,run_underlying hu,Result.andThen_ok,e2,e3,and_self,if_true,hZ hi,vS,h1]
theorem adr {x : Operand} {i : Nat} {vs : List AV} {v : AV} (fe : o.op = .extract x i) (hh : b6 X φ w H) (r : bN (Rd X φ w) φ (.dW vs) (a.eval x)) (hv : vs[i]? = some v) : Ok P X φ w o a v H := by
 generalize hx : a.eval x = ax at r;cases r with
 | dW _ _ us hl hr =>
   obtain ⟨u,hu⟩ := cP (l := us) (i := i) (by have := aB hv; omega);exact Ok.quiet (by simp only [execOp,fe,hx,Instr.extract,hu,Sem.run_bind,Sem.run_pure,Result.andThen_ok]) (hr i v u hv hu) hh
theorem WR {x : Operand} {y : E} {v : AV} {H' : Heap} {fl : Fp} {call : Nat -> List AV -> Heap -> Option (AV × Heap)} (fe : o.op = .nilCheck x) (hh : b6 X φ w H) (r : bN (Rd X φ w) φ (ev c env y) (a.eval x))
  (hs : fG c call env H (.kP y) = some (v,H',fl)) : Ok P X φ w o a v H' := by
 simp only [fG] at hs;split at hs
 ·rename_i b off hy;simp at hs;obtain ⟨rfl,rfl,rfl⟩ := hs;rw [hy] at r;generalize hx : a.eval x = ax at r;have r' := r;cases r;exact Ok.quiet (by simp only [execOp,fe,hx,Sem.run_pure]) r' hh
 ·rename_i cs hy;simp at hs;obtain ⟨rfl,rfl,rfl⟩ := hs;rw [hy] at r;generalize hx : a.eval x = ax at r;have r' := r;cases r;exact Ok.quiet (by simp only [execOp,fe,hx,Sem.run_pure]) r' hh
 ·rename_i f as bs hy;simp at hs;obtain ⟨rfl,rfl,rfl⟩ := hs;rw [hy] at r;generalize hx : a.eval x = ax at r;have r' := r;cases r;exact Ok.quiet (by simp only [execOp,fe,hx,Sem.run_pure]) r' hh
 ·cases hs
theorem adj {ca : Call} {x : Operand} {t : TypeId} {y : E} {v : AV} {H' : Heap} {fl : Fp} {call : Nat -> List AV -> Heap -> Option (AV × Heap)} (fe : o.op = .call ca) (B7 : ca.callee = .builtin .len) (kS : ca.args = #[x]) (Kp : ca.argTypes = #[t]) (hh : b6 X φ w H)
  (r : bN (Rd X φ w) φ (ev c env y) (a.eval x)) (hsl : isSlice P t = true) (hs : fG c call env H (.len y) = some (v,H',fl)) : Ok P X φ w o a v H' := by
 unfold isSlice at hsl;split at hsl
 case h_2 => cases hsl
 rename_i e hu
 have run : ∀ {ad : Option Addr} {n cap : Nat},a.eval x = .slice ad n cap -> (execOp a.eval o).run P w = .ok (.value (.int .i64 n)) w := by
  intro ad n cap hx;simp [execOp,fe,resolve,B7,kS,Kp,invoke,builtin,hx,Builtin.len_,run_underlying hu,goInt]
 simp only [fG] at hs;split at hs
 case h_2 => cases hs
 rename_i n hn;simp at hs;obtain ⟨rfl,rfl,rfl⟩ := hs;generalize hy : ev c env y = yv at r hn;generalize hx : a.eval x = ax at r;cases yv <;> simp only [Xp,aj] at hn <;> try (cases hn; done)
 ·subst hn;cases r;exact Ok.quiet (run hx) (.int _ _ _) hh
 ·cases r with
  | tS _ _ _ ad m cap u hm =>
    subst hm; subst hn;exact Ok.quiet (run hx) (.int _ _ _) hh
  | jM => simp at hn; subst hn; exact Ok.quiet (run hx) (.int _ _ _) hh
 ·subst hn;cases r;exact Ok.quiet (run hx) (.int _ _ _) hh
theorem KI (mx : Bool) : ∀ (xs : List AV) (vs : List Value) (k : IntKind) (n : Int) (r : AV),zE mx (.int k n) xs = some r -> xs.length = vs.length -> (∀ (i : Nat) (c : AV) (v : Value),xs[i]? = some c -> vs[i]? = some v -> bN (Rd X φ w) φ c v) ->
  ∃ v,(vs.foldlM (if mx then Builtin.max2 else Builtin.min2) (.int k n)).run P w = .ok v w /\ ∀ R ψ,bN R ψ r v
 | [],[],k,n,r,h,_,_ => by simp [zE] at h; subst h; exact ⟨_,rfl,fun _ _ => .int _ _ _⟩
 | [],_ :: _,_,_,_,_,hl,_ => by simp at hl
 | _ :: _,[],_,_,_,_,hl,_ => by simp at hl
 | x :: xs,v :: vs,k,n,r,h,hl,hr => by
   cases x <;> simp only [zE] at h <;> try (cases h; done)
   rename_i k' m;obtain rfl := gF (hr 0 _ v rfl rfl);obtain ⟨v',h1,h2⟩ := KI mx xs vs k _ r h (by simpa using hl) (fun i c u hc hu => hr (i + 1) c u (by simpa using hc) (by simpa using hu));refine ⟨v',?_,h2⟩;cases mx
   ·simp only [aX,if_false] at h1 ⊢;simp only [List.foldlM_cons,Builtin.min2,Sem.run_bind,Sem.run_pure,Result.andThen_ok];exact h1
   ·simp only [if_true] at h1 ⊢;simp only [List.foldlM_cons,Builtin.max2,Sem.run_bind,Sem.run_pure,Result.andThen_ok];exact h1
theorem WS {mx : Bool} {ca : Call} {ys : List E} {v : AV} (fe : o.op = .call ca) (B7 : ca.callee = .builtin (if mx then .max else .min)) (hh : b6 X φ w H) (he : nE X φ w env a.tmps) (hg : dL c X φ w)
  (kS : iB ca.args.toList ys = true) (hm : xH mx (C6 c env ys) = some v) : Ok P X φ w o a v H := by
 obtain ⟨hl,hr⟩ := mU he hg kS;generalize hxs : C6 c env ys = xs at hm hl hr;have Ko : (ca.args.map a.eval).toList = ca.args.toList.map a.eval := by simp
 cases xs with
 | nil => simp [xH] at hm
 | cons x xs =>
   cases x <;> simp only [xH] at hm <;> try (cases hm; done)
   rename_i k n;cases hav : ca.args.toList.map a.eval with
   | nil => have := congrArg List.length hav; simp at this hl; rw [this] at hl; simp at hl
   | cons u us =>
     rw [hav] at hr;obtain rfl := gF (hr 0 _ u rfl rfl);obtain ⟨v',h1,h2⟩ := KI (P := P) mx xs us k n v hm (by have := congrArg List.length hav; simp at this hl; omega) (fun i c w' hc hw => hr (i + 1) c w' (by simpa using hc) (by simpa using hw));refine Ok.quiet (v' := v') ?_ (h2 _ _) hh;cases mx
     ·simp only [aX,if_false] at h1 B7;simp only [execOp,fe,resolve,B7,invoke,builtin,Builtin.min_,Ko,hav,Sem.run_bind,Sem.run_pure,Result.andThen_ok,h1]
     ·simp only [if_true] at h1 B7;simp only [execOp,fe,resolve,B7,invoke,builtin,Builtin.max_,Ko,hav,Sem.run_bind,Sem.run_pure,Result.andThen_ok,h1]
theorem adl {t : TypeId} {s : ByteArray} {tab : List Nat} {xi : Operand} {yi : E} {v : AV} {H' : Heap} {fl : Fp} {call : Nat -> List AV -> Heap -> Option (AV × Heap)} (fe : o.op = .index t (.const (.string s)) xi) (hh : b6 X φ w H)
  (ri : bN (Rd X φ w) φ (ev c env yi) (a.eval xi)) (hu : (match P.underlying t with
  | some .string => true
  | _ => false) = true) (htab : s.data.toList.map (·.toNat) = tab) (hs : fG c call env H (.Ux tab yi) = some (v,H',fl)) : Ok P X φ w o a v H' := by
 split at hu
 case h_2 => cases hu
 rename_i hu0;clear hu;simp only [fG] at hs;split at hs
 case h_2 => cases hs
 rename_i j hj;obtain ⟨kk,ii,e1,e2,e3,e4,e5⟩ := uO hj;rw [e1] at ri;have XK := gF ri;split at hs
 case h_2 => cases hs
 rename_i u Ft;simp at hs;obtain ⟨rfl,rfl,rfl⟩ := hs;subst htab
 have bA : j < s.size := by
  have h1 : s.data.size = s.size := rfl;have h2 := e5;simp at h2;omega
 have hsj : s[j]? = some s[j] := getElem?_pos s j bA
 have hu2 : s[j].toNat = u := by
  rw [df] at Ft
  have : s.data.toList[j]? = some s[j] := by
   rw [jh];exact G3 bA
  rw [this] at Ft;simpa using Ft
 refine Ok.quiet (v' := .int .u8 u) ?_ (.int _ _ _) hh;subst e4;have dv : a.eval (.const (.string s)) = .string s := rfl;simp only [execOp,fe,dv,XK,Instr.index,asIntOf,Sem.run_bind,Sem.run_pure,run_underlying hu0,Result.andThen_ok,e2,if_true,hsj,hu2]
theorem adu {ca : Call} {x : Operand} {t : TypeId} {k : Nat} {zs : List AV} {y : E} {v : AV} {H' : Heap} {fl : Fp} {call : Nat -> List AV -> Heap -> Option (AV × Heap)} (fe : o.op = .call ca) (B7 : ca.callee = .builtin .clear) (kS : ca.args = #[x]) (Kp : ca.argTypes = #[t]) (hh : b6 X φ w H)
  (r : bN (Rd X φ w) φ (ev c env y) (a.eval x)) (hk : ir P t k = true) (hz : gJ P t zs = true) (hs : fG c call env H (.Td k zs y) = some (v,H',fl)) : Ok P X φ w o a v H' := by
 obtain ⟨e,i,z,hu,hi,vS,hk0,hby,Nh,Oj⟩ := iA hk;simp only [gJ,hu] at hz;obtain ⟨i',z',wV,GQ,dv,vR⟩ := qH (X := X) (φ := φ) (w := w) hz;rw [hi] at wV;simp at wV;subst wV;rw [Nh] at GQ;simp at GQ;subst GQ;have Cv : zs.length = k := by have := dv.1; simp at this; omega
 have ZL : ∀ {ad : Option Addr} {cap : Nat},a.eval x = .slice ad 0 cap -> (execOp a.eval o).run P w = .ok (.value (.tuple #[])) w := by
  intro ad cap hx;cases ad <;> simp [execOp,fe,resolve,B7,kS,Kp,invoke,builtin,hx,Builtin.clear_,run_underlying hu]
 simp only [fG] at hs;split at hs
 ·rename_i hy;simp at hs;obtain ⟨rfl,rfl,rfl⟩ := hs;rw [hy] at r;generalize hx : a.eval x = ax at r;cases r;exact Ok.quiet (ZL hx) (.undef _) hh
 ·rename_i k' hy;simp at hs;obtain ⟨rfl,rfl,rfl⟩ := hs;rw [hy] at r;generalize hx : a.eval x = ax at r;cases r with
  | tS _ _ _ ad n cap u hn => simp at hn; subst hn; exact Ok.quiet (ZL hx) (.undef _) hh
  | jM => exact Ok.quiet (ZL hx) (.undef _) hh
 ·rename_i k' b off len hy;rw [hy] at r;split at hs
  ·rename_i h0;subst h0;simp at hs;obtain ⟨rfl,rfl,rfl⟩ := hs;generalize hx : a.eval x = ax at r;cases r;exact Ok.quiet (ZL hx) (.undef _) hh
  ·rename_i h0;split at hs
   case h_2 => cases hs
   rename_i cs hb;split at hs
   case isFalse => cases hs
   rename_i hc;obtain ⟨rfl,nr⟩ := hc;simp at hs;obtain ⟨rfl,rfl,rfl⟩ := hs;generalize hx : a.eval x = ax at r;cases r with
   | sl _ _ _ _ _ ad cap On iZ hp =>
     obtain ⟨g,sz,arr,e2,h1,h2,h3,h4,h5,h6⟩ := hh.at hb;obtain rfl := (hp g sz h1).1 (by omega)
     have rp : bN (Rd X φ w) φ (.ptr b off) (.pointer (some ⟨g,off,none⟩)) := .ptr _ _ _ _ On fun g' m9 X4 => by
      rw [h1] at X4;simp at X4;rw [X4.1]
     have hcz : Cs X φ w (rep zs len) (Builtin.zeroCells z.cells len).toList := by
      refine ⟨by rw [kb,Cv]; simp [Builtin.zeroCells,Oj],fun j c v hc hv => ?_⟩;obtain ⟨u,q1,q2⟩ := OS dv (n := len) (m := len * k') (by rw [Oj]; omega) (arr := Builtin.zeroCells z.cells len) (by simp [Builtin.zeroCells,Oj]) (fun i hi => by simp [Builtin.zeroCells,Oj,hi]) j c hc;rw [jh,q1] at hv;simp at hv;subst hv;exact q2
     obtain ⟨g',w',e1,Ak,q1,q2⟩ := Dc (P := P) hh hb rp hcz (hcz.sR (Wa vR len)) (by rw [kb,Cv]; exact nr);simp at e1;subst e1;refine Ok.value (v' := .tuple #[]) ?_ (.undef _) q1 q2;cases len with
     | zero => exact absurd rfl h0
     | succ m => simp [execOp,fe,resolve,B7,kS,Kp,invoke,builtin,hx,Builtin.clear_,run_underlying hu,qQ hi Nh,Ak]
 ·cases hs
end
end Go.Am

/- append; calls. -/
namespace Go.Am
section
variable {P : Program} {c : dN} {X : Nat -> Prop} {φ : de} {w : World} {env : Env} {H : Heap} {a : Act} {o : Oper}

theorem gW {k : Nat} : ∀ {xs : List AV},(∀ x ∈ xs,x.cells.length = k) -> (aE xs).length = xs.length * k /\
  ∀ (p : Nat) (c : AV),(aE xs)[p]? = some c -> ∃ i x j,xs[i]? = some x /\ x.cells[j]? = some c /\ p = i * k + j
 | [],_ => ⟨by simp [aE],fun p c h => by simp [aE] at h⟩
 | x :: r,h => by
   obtain ⟨hl,hm⟩ := gW (xs := r) fun y hy => h y (by simp [hy]);have hx := h x (by simp);refine ⟨by simp [aE,hl,hx,bV]; omega,fun p c hc => ?_⟩;rw [aE] at hc;by_cases hp : p < x.cells.length
   ·rw [av hp] at hc;exact ⟨0,x,p,rfl,hc,by omega⟩
   ·rw [aQ (by omega)] at hc;obtain ⟨i,y,j,h1,h2,h3⟩ := hm _ c hc;exact ⟨i + 1,y,j,by simpa using h1,h2,by rw [bV]; omega⟩
theorem wq (hh : b6 X φ w H) {k m : Nat} {x : AV} {news : List AV} {v : Value} (h : iC H k x = some (news,m)) (r : bN (Rd X φ w) φ x v) :
  ∃ ao cap vs,v = .slice ao m cap /\ vs.length = m * k /\ Cs X φ w news vs /\ (∀ ad,ao = some ad -> ∀ (j : Nat) (u : Value),vs[j]? = some u -> w.cell? (ad.add j) = some u) /\ (ao = none -> m = 0) := by
 have fin : ∀ {ad : Addr} {cap : Nat} {cs : List AV},Ku X φ w cs ad -> cs.length = m * k -> cs = news -> v = .slice (some ad) m cap ->
   ∃ ao cap vs,v = .slice ao m cap /\ vs.length = m * k /\ Cs X φ w news vs /\ (∀ ad,ao = some ad -> ∀ (j : Nat) (u : Value),vs[j]? = some u -> w.cell? (ad.add j) = some u) /\ (ao = none -> m = 0) := by
  intro ad cap cs hp hl hn hv;obtain ⟨vs,h1,h2,h3⟩ := hp.values cs.length (aS _);subst hn;refine ⟨some ad,cap,vs,hv,by omega,⟨h1.symm,fun i c u hc hu => h3 i c u (by simpa using hc) hu⟩,fun ad' h => ?_,fun h => by cases h⟩;cases h;exact h2
 cases x <;> simp only [iC] at h <;> try (cases h; done)
 ·simp at h;obtain ⟨rfl,rfl⟩ := h;cases r;exact ⟨none,0,[],rfl,by simp,⟨rfl,fun i c u hc => by simp at hc⟩,(fun ad h => by cases h),fun _ => rfl⟩
 ·rename_i k' xs;split at h
  ·rename_i hk;subst hk;simp at h;obtain ⟨rfl,rfl⟩ := h;cases r with
   | tS _ _ _ ad n cap u hn iZ Zk hur hr =>
     obtain ⟨hl,hm⟩ := gW Zk;subst hn;refine fin (ad := ad) (cap := cap) (fun p c hc => ?_) hl rfl rfl;obtain ⟨i,y,j,h1,h2,rfl⟩ := hm p c hc;exact ⟨u i j,(hur i j y c h1 h2).2.2,(hr i j y c h1 h2).Im φ⟩
   | jM => exact ⟨none,0,[],rfl,by simp,⟨rfl,fun i c u hc => by simp [aE] at hc⟩,(fun ad h => by cases h),fun _ => rfl⟩
  ·cases h
 ·rename_i k' b off len;split at h
  case h_2 => cases h
  rename_i cs dv;split at h
  case isFalse => cases h
  rename_i hc;obtain ⟨rfl,nr⟩ := hc;simp at h;obtain ⟨rfl,rfl⟩ := h;cases r with
  | sl _ _ _ _ _ ad cap hb hc hp =>
    obtain ⟨g,sz,arr,e,h1,h2,h3,h4,h5,h6⟩ := hh.at dv;by_cases h0 : len = 0
    ·subst h0;exact ⟨some ad,cap,[],rfl,by simp,⟨by simp,fun i c u hc => by simp at hc⟩,(fun _ _ j u hu => by simp at hu),(fun h => by cases h)⟩
    ·obtain rfl := (hp g sz h1).1 (by omega);refine fin (ad := ⟨g,off,none⟩) (cap := cap) (cs := (cs.drop off).take (len * k')) (fun p c hc => ?_) (by simp; omega) rfl rfl;rw [bF] at hc;split at hc
     ·rw [aV] at hc;obtain ⟨u,hu,r⟩ := h6 _ _ hc;exact ⟨u,by rw [Addr.iu,gL h2]; exact hu,r⟩
     ·cases hc

theorem AA {t ty e e2 : TypeId} {i : TypeInfo} (ht : P.underlying t = some (.slice e)) (hi : P.info? e = some i)
  {g OO sCap : Nat} {cur : Array Value} (hg : w.heap[g]? = some (.cells cur e2 (0,0)))
  {a : Addr} {m c : Nat} {news : List Value} (hl : news.length = m * i.size) (aeN : ∀ (j : Nat) (u : Value),news[j]? = some u -> w.cell? (a.add j) = some u) (h1 : ∀ u ∈ news,u.oneCell' = true)
  (ack : OO + m <= sCap) (nr : OO * i.size + news.length <= cur.size) :
  (Builtin.append_ #[t,t] ty #[.slice (some ⟨g,0,none⟩) OO sCap,.slice (some a) m c]).run P w =
   .ok (.slice (some ⟨g,0,none⟩) (OO + m) sCap) (w.setRow g (cur.toList.take (OO * i.size) ++ news ++ cur.toList.drop (OO * i.size + news.length)).toArray) := by
 have hf := run_firstCells_some (P := P) w i.size m a m c news hl aeN;have Ak := run_storeCells_at P g (OO * i.size) e2 news 0 cur w hg (by simpa using nr) h1;simp only [GJ] at Ak;simp [Builtin.append_,run_underlying ht,sizeOf,typeInfo,hi,Builtin.lenOf,ack,hf,Addr.add_lit,Ak]
theorem nJ {t ty e : TypeId} {i : TypeInfo} (hu : P.underlying t = some (.slice e)) (hi : P.info? e = some i) {base ao : Option Addr} {n cap c : Nat} (h : n <= cap) :
  (Builtin.append_ #[t,t] ty #[.slice base n cap,.slice ao 0 c]).run P w = .ok (.slice base n cap) w := by
 cases base <;> cases ao <;> simp [Builtin.append_,run_underlying hu,sizeOf,uh hi,Builtin.lenOf,h,Builtin.firstCells,loadCells,loadCellsFrom,storeCells]
theorem adA {ca : Call} {x y : Operand} {t : TypeId} {k : Nat} {x' y' : E} {v : AV} {H' : Heap} {fl : Fp} {call : Nat -> List AV -> Heap -> Option (AV × Heap)} (fe : o.op = .call ca) (B7 : ca.callee = .builtin .append) (kS : ca.args = #[x,y]) (Kp : ca.argTypes = #[t,t])
  (hh : b6 X φ w H) (rx : bN (Rd X φ w) φ (ev c env x') (a.eval x)) (ry : bN (Rd X φ w) φ (ev c env y') (a.eval y)) (hk : ir P t k = true) (hs : fG c call env H (.app k x' y') = some (v,H',fl)) : Ok P X φ w o a v H' := by
 obtain ⟨e,i,z,hu,hi,vS,hk0,hby,Nh,Oj⟩ := iA hk
 have fin : ∀ {p q v' : Value} {w' : World} {φ' : de},a.eval x = p -> a.eval y = q -> (Builtin.append_ #[t,t] o.type #[p,q]).run P w = .ok v' w' -> bN (Rd X φ' w') φ' v v' -> b6 X φ' w' H' -> fB φ w φ' w' -> Ok P X φ w o a v H' := by
  intro p q v' w' φ' hp hq hr r h k;refine Ok.value ?_ r h k;simp only [execOp,fe,resolve,B7,kS,Kp,invoke,builtin,List.map_toArray,iY,List.map_nil,hp,hq,Sem.run_bind,Sem.run_pure,Result.andThen_ok,hr]
 simp only [fG] at hs;split at hs
 case h_2 => cases hs
 rename_i news m hsc;obtain ⟨ao,P8,vs,hy,XL,JY,hvc,SP⟩ := wq hh hsc ry;have hL : lz = 4294967296 := rfl;split at hs
 ·rename_i GR;rw [GR] at rx;generalize hx : a.eval x = ax at rx;cases rx;by_cases hm : m = 0
  ·subst hm;simp at hs;obtain ⟨rfl,rfl,rfl⟩ := hs;exact fin hx hy (nJ hu hi (aS 0)) (.dc _) hh (.refl _ _)
  ·rw [if_neg hm] at hs;split at hs
   case isFalse => cases hs
   rename_i hc;obtain ⟨XX,vR⟩ := hc;simp at hs;obtain ⟨rfl,rfl,rfl⟩ := hs;cases ao with
   | none => exact absurd (SP rfl) hm
   | some ad =>
     have hmb : m * i.bytes <= 4294967296 * 1024 := Db (by omega) hby;have hr := run_append_nil (P := P) w t o.type e i z hu hi Nh ad m P8 vs (by rw [XL,vS]) (hvc ad rfl) (by omega) (by omega) (by omega);have hge := grownCap_ge w m 0 e
     have nk : (vs.toArray ++ Builtin.zeroCells z.cells (grownCap w m 0 e - m)).size = grownCap w m 0 e * k := by
      simp only [Vo,qF,size_zeroCells,Oj,XL,<- bV]; congr 1; omega
     obtain ⟨q1,q2⟩ := sr hh (w1 := w.drew) (arr := vs.toArray ++ Builtin.zeroCells z.cells (grownCap w m 0 e - m)) (e := e) (cs := news) rfl rfl rfl rfl
      (by rw [nk,JY.1,XL]; exact bG _ hge)
      (JY.at fun j u hj => by rw [qm (by simpa using aB hj)]; simpa using hj)
     exact fin hx hy hr (JK hh.len hge (by rw [nk]; exact aS _)) q1 q2
 ·rename_i k' b n GR;split at hs
  case h_2 => cases hs
  rename_i cs dv;split at hs
  case isFalse => cases hs
  rename_i hc;obtain ⟨rfl,hnk,XX,vR⟩ := hc;simp at hs;obtain ⟨rfl,rfl,rfl⟩ := hs;rw [GR] at rx;generalize hx : a.eval x = ax at rx;cases rx with
  | sl _ _ _ _ _ ad cap hb iZ hp =>
    obtain ⟨g,sz,arr,e2,kF,hg,nk,hle,hX,hm6⟩ := hh.at dv;obtain ⟨Nr,ack⟩ := hp g sz kF
    have hold : Cs X φ w (cs.take (n * k')) (arr.toList.take (n * k')) := by
     refine ⟨by simp; omega,fun j x u hx hu => ?_⟩;have hj : j < n * k' := by have := aB hx; simp at this; omega
     rw [aR hj] at hx hu;obtain ⟨u',h1,h2⟩ := hm6 j x hx;simp at hu;rw [h1] at hu;simp at hu;subst hu;exact h2
    have jN := hold.append JY;have Cz : (arr.toList.take (n * k')).length = n * k' := by simp; omega
    have hlen : (n : Nat) * k' + m * k' = (n + m) * k' := by rw [bV]
    by_cases hm : m = 0
    ·subst hm;have Ko : vs = [] := eI (by omega);subst Ko
     obtain ⟨q1,q2⟩ := hh.move (cs' := cs.take (n * k') ++ news) (arr' := arr) (w' := w) kF hg nk rfl (by rw [setRow_self w g arr e2 _ hg]) hX
      (by rw [jN.1]; simp; omega) (jN.at fun j u hj => by
       rw [List.append_nil] at hj;have hj' : j < n * k' := by have := aB hj; omega
       rw [aR hj'] at hj;simpa using hj)
     refine fin hx hy (nJ hu hi iZ) ?_ q1 q2;refine .sl _ _ _ _ _ _ _ (by simp [hh.len]) iZ fun g' m9 X4 => ?_;rw [aQ (by simp [hh.len])] at X4;simp [hh.len] at X4;obtain ⟨rfl,rfl⟩ := X4;exact ⟨Nr,by omega⟩
    ·cases ao with
     | none => exact absurd (SP rfl) hm
     | some ady =>
       have h1c := JY.sR vR;by_cases PD : n + m <= cap
       ·obtain rfl := Nr (by omega)
        have nr : n * i.size + vs.length <= arr.size := by
         rw [vS,XL,hlen];have := bG k' PD;omega
        have hr := AA (P := P) (ty := o.type) (c := P8) hu hi hg (by rw [XL,vS]) (hvc ady rfl) h1c PD nr;rw [vS] at hr nr
        have zN : (arr.toList.take (n * k') ++ vs ++ arr.toList.drop (n * k' + vs.length)).toArray.size = arr.size := by
         simp only [qF,bu,bg,cB,om]; omega
        obtain ⟨q1,q2⟩ := hh.move (cs' := cs.take (n * k') ++ news) (arr' := (arr.toList.take (n * k') ++ vs ++ arr.toList.drop (n * k' + vs.length)).toArray) kF hg nk zN rfl hX
         (by rw [jN.1,zN]; simp; omega) (jN.at fun j u hj => by
          simp only [vq];rw [av (aB hj)];exact hj)
        refine fin hx hy hr (Sk (by simp [hh.len]) PD (by omega)) q1 q2
       ·have holds : ∀ (j : Nat) (u : Value),(arr.toList.take (n * k'))[j]? = some u -> w.cell? (ad.add j) = some u := by
         intro j u hj;have hj' : j < n * k' := by have := aB hj; omega
         have hn0 : 0 < n := by
          rcases Nat.eq_zero_or_pos n with h | h
          ·subst h; simp at hj'
          ·exact h
         obtain rfl := Nr (by omega);rw [Addr.iu,gL hg];rw [aR hj'] at hj;simpa using hj
        have hmb : (n + m) * i.bytes <= 4294967296 * 1024 := Db (by omega) hby
        have hr := run_append_grow (P := P) w t o.type e i z hu hi Nh ad n cap (arr.toList.take (n * k')) (by rw [Cz,vS]) holds ady m P8 vs (by rw [XL,vS]) (hvc ady rfl) (by omega) (by omega)
         (growslice_fits (by omega) (by omega))
        have hge := grownCap_ge w (n + m) cap e
        have hsz2 : ((arr.toList.take (n * k')).toArray ++ vs.toArray ++ Builtin.zeroCells z.cells (grownCap w (n + m) cap e - (n + m))).size = grownCap w (n + m) cap e * k' := by
         simp only [Vo,qF,size_zeroCells,Oj,XL,Cz,<- bV]; congr 1; omega
        obtain ⟨k1,k2⟩ := hh.Xw b;have ID : Cs X (φ.set b none) w (cs.take (n * k') ++ news) (arr.toList.take (n * k') ++ vs) := ⟨jN.1,fun j x u hx hu => k2.rep (jN.2 j x u hx hu)⟩
        obtain ⟨q1,q2⟩ := sr k1 (w1 := w.drew) (arr := (arr.toList.take (n * k')).toArray ++ vs.toArray ++ Builtin.zeroCells z.cells (grownCap w (n + m) cap e - (n + m))) (e := e) (cs := cs.take (n * k') ++ news) rfl rfl rfl rfl
         (by rw [hsz2,jN.1,bu,Cz,XL,hlen]; exact bG _ hge)
         (ID.at fun j u hj => by
          rw [qm (by simpa using aB hj)];have : ((arr.toList.take (n * k')).toArray ++ vs.toArray) = (arr.toList.take (n * k') ++ vs).toArray := by simp
          rw [this];simpa using hj)
        refine fin hx hy hr ?_ q1 (k2.trans q2);exact Sk (by simp [hh.len]) hge (by rw [hsz2]; exact aS _)
 ·cases hs

theorem aaf {ca : Call} {x y : Operand} {t t' : TypeId} {k : Nat} {x' y' : E} {v : AV} {H' : Heap} {fl : Fp} {call : Nat -> List AV -> Heap -> Option (AV × Heap)} (fe : o.op = .call ca) (B7 : ca.callee = .builtin .copy) (kS : ca.args = #[x,y]) (Kp : ca.argTypes = #[t,t'])
  (hh : b6 X φ w H) (rx : bN (Rd X φ w) φ (ev c env x') (a.eval x)) (ry : bN (Rd X φ w) φ (ev c env y') (a.eval y)) (hk : ir P t k = true) (hs : fG c call env H (.copy k x' y') = some (v,H',fl)) : Ok P X φ w o a v H' := by
 obtain ⟨e,i,z,hu,hi,vS,hk0,hby,Nh,Oj⟩ := iA hk
 have fin : ∀ {p q v' : Value} {w' : World} {φ' : de},a.eval x = p -> a.eval y = q -> (Builtin.copy_ #[t,t'] o.type #[p,q]).run P w = .ok v' w' -> bN (Rd X φ' w') φ' v v' -> b6 X φ' w' H' -> fB φ w φ' w' -> Ok P X φ w o a v H' := by
  intro p q v' w' φ' hp hq hr r h k;refine Ok.value ?_ r h k;simp only [execOp,fe,resolve,B7,kS,Kp,invoke,builtin,List.map_toArray,iY,List.map_nil,hp,hq,Sem.run_bind,Sem.run_pure,Result.andThen_ok,hr]
 simp only [fG] at hs;split at hs
 case h_2 => cases hs
 rename_i news m hsc;obtain ⟨ao,P8,vs,hy,XL,JY,hvc,SP⟩ := wq hh hsc ry
 have zero : ∀ {base : Option Addr} {n cap : Nat},Nat.min m n = 0 -> (Builtin.copy_ #[t,t'] o.type #[.slice base n cap,.slice ao m P8]).run P w = .ok (.int .i64 0) w := by
  intro base n cap h0;cases base <;> cases ao <;> simp [Builtin.copy_,run_underlying hu,Builtin.lenOf,sizeOf,uh hi,h0,Builtin.firstCells,loadCells,loadCellsFrom,storeCells,goInt]
 split at hs
 ·rename_i GR;rw [GR] at rx;generalize hx : a.eval x = ax at rx;cases rx;simp at hs;obtain ⟨rfl,rfl,rfl⟩ := hs;exact fin hx hy (zero (Nat.min_zero m)) (.int _ _ _) hh (.refl _ _)
 ·rename_i k' b off n GR;split at hs
  case h_2 => cases hs
  rename_i cs dv;split at hs
  case isFalse => cases hs
  rename_i hc;obtain ⟨rfl,nr,vR⟩ := hc;simp only [aj,aF] at hs;obtain ⟨rfl,rfl,rfl⟩ := hs;rw [GR] at rx;generalize hx : a.eval x = ax at rx;cases rx with
  | sl _ _ _ _ _ ad cap hb iZ hp =>
    obtain ⟨g,sz,arr,e2,kF,hg,nk,hle,hX,hm6⟩ := hh.at dv;by_cases h0 : min m n = 0
    ·have e0 : H.set b (some (jf cs off (news.take (min m n * k')))) = H := by
      have e1 : jf cs off (news.take (min m n * k')) = cs := by rw [h0]; simp [jf]
      rw [e1]
      have gr : H[b]? = some (some cs) := by
       unfold aH at dv;split at dv
       ·rename_i q hq;cases dv;exact hq
       ·cases dv
      apply cY;intro j;rw [bj];split
      ·rename_i ej;subst ej;rw [gr];simp [aB gr]
      ·rfl
     have h0' : Nat.min m n = 0 := h0;exact fin hx hy (zero h0') (by rw [h0]; exact .int _ _ _) (by rw [e0]; exact hh) (.refl _ _)
    ·obtain rfl := (hp g sz kF).1 (by omega);cases ao with
     | none => exact absurd (SP rfl) (by omega)
     | some ady =>
       have rp : bN (Rd X φ w) φ (.ptr b off) (.pointer (some ⟨g,off,none⟩)) := .ptr _ _ _ _ hb fun g' m9 X4 => by
        rw [kF] at X4;simp at X4;rw [X4.1]
       have hle2 : min m n * k' <= m * k' := bG _ (Nat.min_le_left _ _);have hle3 : min m n * k' <= n * k' := bG _ (Nat.min_le_right _ _)
       have hcz : Cs X φ w (news.take (min m n * k')) (vs.take (min m n * k')) := by
        refine ⟨by simp [JY.1],fun j d u hd hu => ?_⟩;have hj : j < min m n * k' := by have := aB hd; rw [bg] at this; omega
        rw [aR hj] at hd hu;exact JY.2 j d u hd hu
       have hnl : news.length = m * k' := by rw [JY.1,XL]
       obtain ⟨g',w',e1,Ak,q1,q2⟩ := Dc (P := P) hh dv rp hcz (fun u hu => JY.sR vR u (List.mem_of_mem_take hu)) (by rw [bg]; omega);simp at e1;subst e1
       have hf := run_firstCells_some (P := P) w i.size (min m n) ady m P8 (vs.take (min m n * k')) (by rw [bg,XL,vS]; omega) (fun j u hj => by
        have hj' : j < min m n * k' := by have := aB hj; rw [bg] at this; omega
        rw [aR hj'] at hj;exact hvc ady rfl j u hj)
       have hmin : Nat.min m n = min m n := rfl;refine fin hx hy (v' := .int .i64 ((min m n : Nat) : Int)) (w' := w') ?_ (.int _ _ _) q1 q2;have UP : (Builtin.firstCells i.size (Nat.min m n) (.slice (some ady) m P8)).run P w = .ok (vs.take (min m n * k')).toArray w := hf;simp [Builtin.copy_,run_underlying hu,Builtin.lenOf,sizeOf,uh hi,UP,Ak,goInt]
       try rfl
 ·cases hs

/-! Calls -/
def Ret (X : Nat -> Prop) (φ : de) (w : World) (r : AV) (H' : Heap) (e : Ending) (w' : World) : Prop :=
 ∃ v' φ',e = .returned v' /\ bN (Rd X φ' w') φ' r v' /\ b6 X φ' w' H' /\ fB φ w φ' w'
def Bx (P : Program) (c : dN) (call : Nat -> List AV -> Heap -> Option (AV × Heap)) : Prop :=
 ∀ f m q,c.fn f = some (m,q) -> ∀ args H r H',call f args H = some (r,H') -> ∀ X φ w vargs,pM X φ w args vargs -> b6 X φ w H -> dL c X φ w -> Calls P f vargs w (Ret X φ w r H')

theorem b6.gU (h : b6 X φ w H) {g : Nat} (ho : bK φ g) : g < w.heap.size /\ ¬ X g := by
 obtain ⟨b,sz,hb⟩ := ho;obtain ⟨x,hx⟩ := bc (l := H) (i := b) (h.len ▸ aB hb);cases x with
 | none => rw [h.dead b hx] at hb; simp at hb
 | some cs =>
   obtain ⟨g',m9,arr,e,h1,h2,_,_,h5,_⟩ := h.live b cs hx;rw [h1] at hb;simp at hb;rw [<- hb.1];exact ⟨(dx.1 h2).1,h5⟩
theorem b6.empty (h : b6 X φ w H) : b6 (fun g => X g \/ bK φ g) [] w [] :=
 ⟨rfl,fun g hg => hg.elim (h.GL g) (fun ho => (h.gU ho).1),fun b cs hb => by simp at hb,fun b hb => by simp at hb,fun b b' g sz m9 h1 => by simp at h1⟩
theorem MF (hh : b6 X φ w H) {R : Addr -> Value -> Prop} (hR : ∀ a u,Rd X φ w a u -> R a u) {xs ys : List AV} {bs : List Nat} {n : Nat} {vs : Array Value} (hm : AR (Bk H n) xs = some (ys,bs))
  (hb : ∀ b ∈ bs,∀ g sz : Nat,φ[b]? = some (some (g,sz)) -> ∀ o u,w.cell? ⟨g,o,none⟩ = some u -> R ⟨g,o,none⟩ u) (ha : pM X φ w xs vs) :
  ys.length = vs.size /\ ∀ (i : Nat) (c : AV) (v : Value),ys[i]? = some c -> vs[i]? = some v -> bN R [] c v := by
 obtain ⟨hl,UK⟩ := rP hm;refine ⟨by rw [hl,ha.1],fun i c v hc hv => ?_⟩;obtain ⟨x,hx⟩ := bc (l := xs) (i := i) (by have := aB hc; omega);obtain ⟨y,b,e1,e2,e3⟩ := UK i x hx;rw [e2] at hc;simp at hc;subst hc;exact C5 hh hR n x _ v b e1 (fun b' gr => hb b' (e3 b' gr)) (ha.2 i x v hx hv)

theorem AG {call : Nat -> List AV -> Heap -> Option (AV × Heap)} (dU : Bx P c call) {f : Nat} {m : Md} {q : fO} (hf : c.fn f = some (m,q)) {args : List AV} {r r' : AV} {H1 : Heap} {bs : List Nat} (hr : call f args [] = some (r,H1)) (hz : Bk H1 Qh r = some (r',bs))
  (hh : b6 X φ w H) (hg : dL c X φ w) {vargs : Array Value} (ha : args.length = vargs.size /\ ∀ (i : Nat) (c : AV) (v : Value),args[i]? = some c -> vargs[i]? = some v -> bN (Rd X φ w) [] c v) :
  Calls P f vargs w (Ret X φ w r' H) := by
 have Bc : ∀ {w' : World} a u,Rd X φ w' a u -> Rd (fun g => X g \/ bK φ g) [] w' a u := fun a u ⟨h1,h2,h3⟩ => ⟨fun h => h.elim h1 h2,bK.nil _,h3⟩;have aeW : ∀ {w' : World} a u,Rd (fun g => X g \/ bK φ g) [] w' a u -> Rd X φ w' a u := fun a u ⟨h1,_,h3⟩ => ⟨fun h => h1 (.inl h),fun h => h1 (.inr h),h3⟩;refine (dU f m q hf args [] r H1 hr (fun g => X g \/ bK φ g) [] w vargs ⟨ha.1,fun i x v hx hv => (ha.2 i x v hx hv).mono Bc (.refl _)⟩ hh.empty (fun g => (hg g).mono Bc (.refl _))).mono ?_;rintro e w1 ⟨v',nG,rfl,r1,h1,a1⟩;refine ⟨v',φ,rfl,?_,hh.of_same a1,.of_same a1⟩
 have CB := C5 h1 (R := Rd (fun g => X g \/ bK φ g) [] w1) (fun a u ⟨p1,p2,p3⟩ => ⟨p1,bK.nil _,p3⟩) Qh r r' v' bs hz
  (fun b _ g sz hb o u hu => ⟨(h1.gU ⟨b,sz,hb⟩).2,bK.nil _,hu⟩) r1
 exact (CB.mono aeW (.refl _)).Im φ
theorem IW {call : Nat -> List AV -> Heap -> Option (AV × Heap)} (dU : Bx P c call) {f : Nat} {args : List AV} {r : AV} {H' : Heap} {fl : Fp} (hs : uX c call f args H = some (r,H',fl))
  (hh : b6 X φ w H) (hg : dL c X φ w) {vargs : Array Value} (ha : pM X φ w args vargs) : (∃ m q,c.fn f = some (m,q)) /\ Calls P f vargs w (Ret X φ w r H') := by
 unfold uX at hs;split at hs
 ·cases hs
 ·rename_i q hf;refine ⟨⟨_,_,hf⟩,?_⟩;split at hs
  case h_2 => cases hs
  rename_i r1 H1 hr;simp at hs;obtain ⟨rfl,rfl,rfl⟩ := hs;exact dU f _ q hf args H r1 H1 hr X φ w vargs ha hh hg
 ·rename_i q hf;refine ⟨⟨_,_,hf⟩,?_⟩;split at hs
  case h_2 => cases hs
  rename_i r1 H1 hr;split at hs
  case h_2 => cases hs
  rename_i r' bs hz;split at hs
  case isFalse => cases hs
  rename_i hc;obtain ⟨hle,hge,cO⟩ := hc;simp at hs;obtain ⟨rfl,rfl,rfl⟩ := hs;refine (dU f _ q hf args H r1 H1 hr X φ w vargs ha hh hg).mono ?_;rintro e w1 ⟨v',nG,rfl,r1,h1,a1⟩;have hlen := hh.len;refine ⟨v',nG.take φ.length,rfl,?_,by rw [hlen]; exact h1.take hle cO,a1.take⟩
  have XW : ∀ {n : Nat} {l : List Nat},Tr n l = true -> ∀ b ∈ l,n <= b := by
   intro n l
   induction l with
   | nil => intro _ b hb; simp at hb
   | cons x r ih =>
     intro h b hb;simp only [Tr,ab,decide_eq_true_eq] at h;rcases aJ.1 hb with h' | h'
     ·subst h'; exact h.1
     ·exact ih h.2 b h'
  have CB := C5 h1 (R := Rd X (nG.take φ.length) w1) QH Qh _ _ v' bs hz (fun b hb g sz kF o u hu => ?_) r1
  ·exact CB.Im _
  ·refine ⟨(h1.gU ⟨b,sz,kF⟩).2,fun ⟨b',m9,gr⟩ => ?_,hu⟩;rw [bF] at gr;split at gr
   ·rename_i bA;have := h1.inj b b' g sz m9 kF gr;have := XW hge b hb;omega
   ·cases gr
 ·rename_i q hf;refine ⟨⟨_,_,hf⟩,?_⟩;split at hs
  ·rename_i pR;split at hs
   case h_2 => cases hs
   rename_i r1 H1 hr;split at hs
   case h_2 => cases hs
   rename_i r' bs hz;simp at hs;obtain ⟨rfl,rfl,rfl⟩ := hs;exact AG dU hf hr hz hh hg ⟨ha.1,fun i x v hx hv => (ha.2 i x v hx hv).dA (pg pR i x hx) []⟩
  ·split at hs
   case h_2 => cases hs
   rename_i ql bs hm;split at hs
   case h_2 => cases hs
   rename_i r1 H1 hr;split at hs
   case h_2 => cases hs
   rename_i r' bs' hz;split at hs
   ·rename_i aeQ;simp at hs;obtain ⟨rfl,rfl,rfl⟩ := hs;have hh0 : b6 X [] w [] := ⟨rfl,hh.GL,fun b cs hb => by simp at hb,fun b hb => by simp at hb,fun b b' g sz m9 h1 => by simp at h1⟩;have Bc : ∀ {w' : World} a u,Rd X φ w' a u -> Rd X [] w' a u := fun a u ⟨h1,_,h3⟩ => ⟨h1,bK.nil _,h3⟩;have C4 := MF hh (R := Rd X [] w) Bc hm (fun b _ g sz hb o u hu => ⟨(hh.gU ⟨b,sz,hb⟩).2,bK.nil _,hu⟩) ha;have hc := AG (X := X) (φ := []) (H := []) dU hf hr hz hh0 (fun g => (hg g).mono Bc (.refl _)) C4;refine hc.mono ?_;rintro e w1 ⟨v',nG,rfl,r1,h1,a1⟩;exact ⟨v',φ,rfl,r1.of_flat aeQ _ _,hh.of_same a1,.of_same a1⟩
   ·simp at hs;obtain ⟨rfl,rfl,rfl⟩ := hs;obtain ⟨k1,k2⟩ := b6.kill bs hh
    have C4 := MF hh (R := Rd X (M5 φ bs) w) k2.rd hm (fun b hb g sz kF o u hu => ⟨(hh.gU ⟨b,sz,kF⟩).2,fun ⟨b',m9,gr⟩ => by
     obtain ⟨e1,e2⟩ := Ix bs φ b' _ gr;exact e2 (hh.inj b b' g sz m9 kF e1 ▸ hb),hu⟩) ha
    have hc := AG dU hf hr hz k1 (hg.m6 k2) C4;refine hc.mono ?_;rintro e w1 ⟨v',nG,rfl,r1,h1,a1⟩;exact ⟨v',nG,rfl,r1,h1,k2.trans a1⟩

theorem yq (cO : Od P c) {f : Nat} {m : Md} {q : fO} (hf : c.fn f = some (m,q)) (vargs : Array Value) : (callFunc f vargs).run P w = .ok (.enter f vargs) w := by
 obtain ⟨fn,h1,h2⟩ := cO.fn f m q hf;simp only [chkF,ab,bt] at h2;obtain ⟨⟨⟨_,IC⟩,_⟩,rS⟩ := h2
 have hb : fn.body.isNone = false := by
  cases hfb : fn.body with
  | none => rw [hfb] at rS; cases rS
  | some b => rfl
 simp only [callFunc,Sem.run_bind,run_program,Result.andThen_ok,h1,IC,hb,aX,if_false,Sem.run_pure]
theorem Ok.call {f : Nat} {vargs : Array Value} {r : AV} {H' : Heap} (hr : (execOp a.eval o).run P w = .ok (.enter f vargs) w) (hc : Calls P f vargs w (Ret X φ w r H')) : Ok P X φ w o a r H' := by
 intro K Q hK;unfold Oper.wp;rw [hr,Oper.upon_enter];refine hc.mono ?_;rintro e w' ⟨v',φ',rfl,r1,h1,a1⟩;exact hK v' w' φ' r1 h1 a1
theorem aag {call : Nat -> List AV -> Heap -> Option (AV × Heap)} (cO : Od P c) (dU : Bx P c call) {ca : Call} {f : Nat} {ys : List E} {r : AV} {H' : Heap} {fl : Fp} (fe : o.op = .call ca) (B7 : ca.callee = .value (.func f))
  (hh : b6 X φ w H) (he : nE X φ w env a.tmps) (hg : dL c X φ w) (kS : iB ca.args.toList ys = true) (hs : fG c call env H (.call f ys) = some (r,H',fl)) : Ok P X φ w o a r H' := by
 obtain ⟨hl,hr⟩ := mU he hg kS;obtain ⟨⟨m,q,hf⟩,hc⟩ := IW (P := P) dU hs hh hg (vargs := ca.args.map a.eval) ⟨by simp [hl],fun i x v hx hv => hr i x v hx (by simpa using hv)⟩;refine Ok.call ?_ hc;simp only [execOp,fe,resolve,B7,Act.eval,Deferred.ofValue,invoke,Sem.run_bind,Sem.run_pure,Result.andThen_ok,Array.empty_append,Array.append_empty];exact yq cO hf _
theorem WW {call : Nat -> List AV -> Heap -> Option (AV × Heap)} (cO : Od P c) (dU : Bx P c call) {ca : Call} {x : Operand} {y : E} {ys : List E} {r : AV} {H' : Heap} {fl : Fp} (fe : o.op = .call ca) (B7 : ca.callee = .value x)
  (hh : b6 X φ w H) (he : nE X φ w env a.tmps) (hg : dL c X φ w) (hx : cN x y = true) (kS : iB ca.args.toList ys = true) (hs : fG c call env H (.gw y ys) = some (r,H',fl)) : Ok P X φ w o a r H' := by
 obtain ⟨hl,hr⟩ := mU he hg kS;have rx := bM (a := a) he hg hx;simp only [fG] at hs;split at hs
 case h_2 => cases hs
 rename_i f as bs hy;rw [hy] at rx;generalize Oo : a.eval x = ax at rx;cases rx with
 | func _ _ _ va _ vb B6 B5 hra hrb =>
   have jN : pM X φ w (as ++ C6 c env ys ++ bs) (va ++ ca.args.map a.eval ++ vb) := by
    have c1 : Cs X φ w as va.toList := ⟨by simpa using B6,fun i x v hx hv => hra i x v hx (by simpa using hv)⟩;have c2 : Cs X φ w (C6 c env ys) (ca.args.map a.eval).toList := ⟨by simp [hl],fun i x v hx hv => hr i x v hx (by simpa using hv)⟩;have c3 : Cs X φ w bs vb.toList := ⟨by simpa using B5,fun i x v hx hv => hrb i x v hx (by simpa using hv)⟩;have c4 := (c1.append c2).append c3
    exact ⟨by have := c4.1; simp at this ⊢; omega,fun i x v hx hv => c4.2 i x v hx (by
     have : (va ++ ca.args.map a.eval ++ vb).toList = va.toList ++ (ca.args.map a.eval).toList ++ vb.toList := by simp
     rw [<- this,jh]; exact hv)⟩
   obtain ⟨⟨m,q,hf⟩,hc⟩ := IW (P := P) dU hs hh hg jN;refine Ok.call ?_ hc;simp only [execOp,fe,resolve,B7,Oo,Deferred.ofValue,invoke,Sem.run_bind,Sem.run_pure,Result.andThen_ok];exact yq cO hf _
end
end Go.Am

/- Every operation; regions in the order of the text, and regions that draw their order. -/
namespace Go.Am
section
variable {P : Program} {c : dN} {X : Nat -> Prop} {φ : de} {w : World} {env : Env} {H : Heap} {a : Act} {o : Oper}

theorem aeB {call : Nat -> List AV -> Heap -> Option (AV × Heap)} (cO : Od P c) (dU : Bx P c call) (he : nE X φ w env a.tmps) (hg : dL c X φ w) (hh : b6 X φ w H) {kd : Kd} {v : AV} {H' : Heap} {fl : Fp}
  (hk : cG P o.op kd = true) (hs : fG c call env H kd = some (v,H',fl)) : Ok P X φ w o a v H' := by
 generalize fe : o.op = op at hk;unfold cG at hk;split at hk
 case h_1 =>
  simp [fG] at hs; obtain ⟨rfl,rfl,_⟩ := hs;exact Ok.quiet (by simp [execOp,fe]) (bM he hg hk) hh
 case h_2 =>
  simp [fG] at hs; obtain ⟨rfl,rfl,_⟩ := hs;exact Ok.quiet (by simp [execOp,fe]) (bM he hg hk) hh
 case h_3 =>
  simp only [ab] at hk;simp only [fG] at hs;split at hs
  case h_2 => cases hs
  rename_i t ht;simp at hs; obtain ⟨rfl,rfl,_⟩ := hs;have r := bM (a := a) he hg hk.1.1;rw [ht] at r;exact aab fe hh r (bM he hg hk.1.2) (bM he hg hk.2)
 case h_4 =>
  simp [fG] at hs; obtain ⟨rfl,rfl,_⟩ := hs;exact Pc fe hh hk
 case h_5 =>
  simp only [fG] at hs;split at hs
  case isFalse => cases hs
  rename_i hl;simp at hs; obtain ⟨rfl,rfl,_⟩ := hs;exact adw fe hh (bM he hg hk) hl
 case h_6 =>
  simp only [ab] at hk;simp only [fG] at hs;split at hs
  case h_2 => cases hs
  rename_i cs hf;simp at hs; obtain ⟨rfl,rfl,_⟩ := hs;exact WY fe hh he hg hk.1 hk.2 hf
 case h_7 =>
  simp only [ab,decide_eq_true_eq] at hk;obtain ⟨⟨⟨⟨h1,h2⟩,h3⟩,h4⟩,h5⟩ := hk;subst h1;simp only [fG] at hs;split at hs
  case h_2 => cases hs
  rename_i cs hf;split at hs
  case isFalse => cases hs
  simp at hs; obtain ⟨rfl,rfl,_⟩ := hs;exact Ue fe hh he hg h2 h3 h4 h5 hf
 case h_8 =>
  simp only [ab,decide_eq_true_eq] at hk;exact aeE fe hh (bM he hg hk.2) hk.1 hs
 case h_9 =>
  simp only [ab] at hk;simp only [fG] at hs;split at hs
  case h_2 => cases hs
  rename_i b off hb;split at hs
  case h_2 => cases hs
  rename_i cs dv;split at hs
  case isFalse => cases hs
  rename_i hc;simp at hs; obtain ⟨rfl,rfl,_⟩ := hs;have r := bM (a := a) he hg hk.1.2;rw [hb] at r;exact WO fe hh dv hk.1.1 r (bM he hg hk.2) hc.1 hc.2.1 hc.2.2
 case h_10 => exact WR fe hh (bM he hg hk) hs
 case h_11 =>
  simp only [ab,decide_eq_true_eq] at hk;obtain ⟨⟨h1,h2⟩,h3⟩ := hk;subst h1;simp only [fG] at hs;split at hs
  case h_2 => cases hs
  rename_i r hr;simp at hs; obtain ⟨rfl,rfl,_⟩ := hs;exact adx fe hh (bM he hg h2) (bM he hg h3) hr
 case h_12 =>
  simp only [ab] at hk;obtain ⟨⟨⟨h1,h2⟩,h3⟩,h4⟩ := hk;simp only [fG] at hs;split at hs
  case h_2 => cases hs
  rename_i e hr;simp at hs; obtain ⟨rfl,rfl,_⟩ := hs;have := ok_eq fe hh h1 h2 (bM he hg h3) (bM he hg h4) hr;simpa using this
 case h_13 =>
  simp only [ab,decide_eq_true_eq] at hk;obtain ⟨h1,h2⟩ := hk;subst h1;simp only [fG] at hs;split at hs
  case h_2 => cases hs
  rename_i r hr;simp at hs; obtain ⟨rfl,rfl,_⟩ := hs;exact aeD fe hh (bM he hg h2) hr
 case h_14 =>
  simp only [ab] at hk;obtain ⟨⟨h1,h2⟩,h3⟩ := hk;split at h2
  case h_2 => cases h2
  rename_i k' hu;simp at h2;subst h2;simp only [fG] at hs;split at hs
  case h_2 => cases hs
  rename_i k2 n hn;simp at hs; obtain ⟨rfl,rfl,_⟩ := hs;have r := bM (a := a) he hg h3;rw [hn] at r;exact adt fe hh h1 hu r
 case h_15 =>
  simp only [ab,decide_eq_true_eq] at hk;obtain ⟨⟨h1,h2⟩,h3⟩ := hk;subst h1;simp [fG] at hs; obtain ⟨rfl,rfl,_⟩ := hs;exact adh fe hh he hg h2 h3
 case h_16 =>
  simp only [ab] at hk;obtain ⟨⟨⟨h1,h2⟩,h3⟩,h4⟩ := hk;simp only [fG] at hs;split at hs
  case h_2 => cases hs
  rename_i k1 l k2 cp hl hcp;split at hs
  case isFalse => cases hs
  rename_i hc;simp at hs; obtain ⟨rfl,rfl,_⟩ := hs;have r1 := bM (a := a) he hg h3;have r2 := bM (a := a) he hg h4;rw [hl] at r1;rw [hcp] at r2;exact adg fe hh h1 h2 r1 r2 hc.1 hc.2.1 hc.2.2
 case h_17 =>
  simp only [ab] at hk;obtain ⟨⟨⟨h1,h2⟩,h3⟩,h4⟩ := hk;exact ade fe hh he hg h1 h2 h3 h4 hs
 case h_18 =>
  simp only [ab] at hk;exact adq fe hh (bM he hg hk.2) hk.1 hs
 case h_19 =>
  simp only [ab] at hk;exact adp fe hh (bM he hg hk.2) hk.1 hs
 case h_20 =>
  simp only [ab] at hk;exact adn fe hh (bM he hg hk.1.2) (bM he hg hk.2) hk.1.1 hs
 case h_21 =>
  simp only [ab] at hk;exact adm fe hh (bM he hg hk.1.2) (bM he hg hk.2) hk.1.1 hs
 case h_22 =>
  simp only [ab] at hk;exact aeF fe hh (bM he hg hk.1.2) (bM he hg hk.2) hk.1.1 hs
 case h_23 =>
  simp only [ab,decide_eq_true_eq] at hk;exact adl fe hh (bM he hg hk.2) hk.1.1 hk.1.2 hs
 case h_24 =>
  rename_i args argTypes k zs x;split at hk
  case h_2 => cases hk
  rename_i x' t h1 h2;simp only [ab] at hk;exact adu (x := x') (t := t) fe rfl (gd.1 h1) (gd.1 h2) hh (bM he hg hk.2) hk.1.1 hk.1.2 hs
 case h_25 =>
  simp only [ab,decide_eq_true_eq] at hk;obtain ⟨h1,h2⟩ := hk;subst h1;simp only [fG] at hs;split at hs
  case h_2 => cases hs
  rename_i vs hv;split at hs
  case h_2 => cases hs
  rename_i u hu;simp at hs; obtain ⟨rfl,rfl,_⟩ := hs;have r := bM (a := a) he hg h2;rw [hv] at r;exact adr fe hh r hu
 case h_26 =>
  simp only [ab,decide_eq_true_eq] at hk;obtain ⟨h1,h2⟩ := hk;subst h1;exact aag cO dU fe rfl hh he hg h2 hs
 case h_27 =>
  simp only [ab] at hk;exact WW cO dU fe rfl hh he hg hk.1 hk.2 hs
 case h_28 =>
  rename_i args argTypes y;split at hk
  case h_2 => cases hk
  rename_i x t h1 h2;simp only [ab] at hk;exact adj (x := x) (t := t) fe rfl (gd.1 h1) (gd.1 h2) hh (bM he hg hk.2) hk.1 hs
 case h_29 =>
  rename_i args argTypes k x y;split at hk
  case h_2 => cases hk
  rename_i x' y' t t' h1 h2;simp only [ab,decide_eq_true_eq] at hk;obtain ⟨⟨⟨h3,h4⟩,h5⟩,h6⟩ := hk;subst h3;exact adA (x := x') (y := y') (t := t) fe rfl (gd.1 h1) (gd.1 h2) hh (bM he hg h5) (bM he hg h6) h4 hs
 case h_30 =>
  simp only [fG] at hs;split at hs
  case h_2 => cases hs
  rename_i r hr;simp at hs; obtain ⟨rfl,rfl,_⟩ := hs;exact WS (mx := false) fe rfl hh he hg hk hr
 case h_31 =>
  simp only [fG] at hs;split at hs
  case h_2 => cases hs
  rename_i r hr;simp at hs; obtain ⟨rfl,rfl,_⟩ := hs;exact WS (mx := true) fe rfl hh he hg hk hr
 case h_32 =>
  simp only [ab] at hk;exact adz fe hh he hg hk.2.2 (bM he hg hk.2.1) hk.1 hs
 case h_33 =>
  rename_i args argTypes k x y;split at hk
  case h_2 => cases hk
  rename_i x' y' t t' h1 h2;simp only [ab] at hk;exact aaf (x := x') (y := y') (t := t) (t' := t') fe rfl (gd.1 h1) (gd.1 h2) hh (bM he hg hk.1.2) (bM he hg hk.2) hk.1.1 hs
 case h_34 => cases hs
 case h_35 => cases hk

structure SRel (X : Nat -> Prop) (φ : de) (w : World) (s : St) (a : Act) (N : Nat) : Prop where
 env : nE X φ w s.env a.tmps
 heap : b6 X φ w s.H
 defers : a.defers = []
 size : a.tmps.size = N

theorem WA (a : Act) (d : Option Nat) (v : Value) : (a.put d v).tmps.size = a.tmps.size /\ (a.put d v).defers = a.defers := by cases d <;> simp [Act.put]
theorem SRel.put {s : St} {N : Nat} {φ' : de} {w' : World} {d : Option Nat} {v : AV} {v' : Value} {H' : Heap} (h : SRel X φ w s a N) (hd : ∀ i,d = some i -> i < N) (r : bN (Rd X φ' w') φ' v v') (hh : b6 X φ' w' H') (k : fB φ w φ' w') :
  SRel X φ' w' ⟨rI s.env d v,H'⟩ (a.put d v') N := by
 obtain ⟨h1,h2⟩ := WA a d v';refine ⟨?_,hh,by rw [h2]; exact h.defers,by rw [h1]; exact h.size⟩;cases d with
 | none => exact h.env.m6 k
 | some i => exact (h.env.m6 k).put (by rw [h.size]; exact hd i rfl) r
theorem US {ts : Array Value} {g : Nat} {b : Bool} (h : ts.getD g undef = .bool b) : ts[g]? = some (.bool b) := by
 rw [aY] at h;cases hg : ts[g]? with
 | none => rw [hg] at h; simp [undef] at h
 | some v => rw [hg] at h; simp at h; rw [h]
theorem PM {ts : Array Value} {g : Nat} (h : ts.getD g undef = .tuple #[]) : ts[g]? = none \/ ts[g]? = some (.tuple #[]) := by
 rw [aY] at h;cases hg : ts[g]? with
 | none => exact .inl rfl
 | some v => rw [hg] at h; simp at h; rw [h]; exact .inr rfl

end
end Go.Am

/- Regions that draw their order: the order makes no difference. -/
namespace Go.Am
section
variable {P : Program} {c : dN} {call : Nat -> List AV -> Heap -> Option (AV × Heap)}

theorem iR {e1 e2 : Env} {x : E} (h : ∀ i ∈ x.slot,get e1 i = get e2 i) : ev c e1 x = ev c e2 x := by
 cases x with
 | t i => exact h i (by simp [E.slot])
 | k x => rfl
 | g i => rfl
theorem mT {e1 e2 : Env} : ∀ {xs : List E},(∀ i ∈ lk xs,get e1 i = get e2 i) -> C6 c e1 xs = C6 c e2 xs
 | [],_ => rfl
 | x :: r,h => by
   simp only [lk,aD] at h;simp only [C6];rw [iR fun i hi => h i (.inl hi),mT fun i hi => h i (.inr hi)]
theorem uV {e1 e2 : Env} : ∀ {ps : List (Nat × Nat × E)} {zs : List AV},(∀ i ∈ oU ps,get e1 i = get e2 i) -> nv c e1 zs ps = nv c e2 zs ps
 | [],_,_ => by simp [nv]
 | (o,s,x) :: r,zs,h => by
   simp only [oU,aD] at h;simp only [nv];rw [iR fun i hi => h i (.inl hi)];split
   ·exact uV fun i hi => h i (.inr hi)
   ·rfl
theorem xS {e1 e2 : Env} {d m : Nat} {x : Option E} (h : ∀ i ∈ Hf x,get e1 i = get e2 i) : Ac c e1 d m x = Ac c e2 d m x := by
 cases x with
 | none => rfl
 | some x => simp only [Ac]; rw [iR h]
theorem Ja {e1 e2 : Env} {H : Heap} {kd : Kd} (h : ∀ i ∈ kd.reads,get e1 i = get e2 i) : fG c call e1 H kd = fG c call e2 H kd := by
 cases kd <;> simp only [Kd.reads,aD] at h <;> simp only [fG]
 case pick x y z => rw [iR fun i hi => h i (.inl hi),iR fun i hi => h i (.inr (.inl hi)),iR fun i hi => h i (.inr (.inr hi))]
 case build => rw [uV h]
 case dh => rw [uV h]
 case Av k x lo hi => rw [iR fun i hi => h i (.inl hi)]; simp only [xS (c := c) fun i hi => h i (.inr (.inl hi)),xS (c := c) fun i hi => h i (.inr (.inr hi))]
 case I8 n x u => simp only [iR (c := c) fun i hi => h i (.inl hi),xS (c := c) fun i hi => h i (.inr hi)]
 case call => rw [mT h]
 case min => rw [mT h]
 case max => rw [mT h]
 case GC => rw [mT fun i hi => h i (.inl hi),mT fun i hi => h i (.inr hi)]
 case gw => rw [iR fun i hi => h i (.inl hi),mT fun i hi => h i (.inr hi)]
 all_goals first
  | rfl
  | rw [iR h]
  | rw [iR fun i hi => h i (.inl hi),iR fun i hi => h i (.inr hi)]
theorem Gd {H : Heap} {b b' : Nat} {x : Ql} (h : b ≠ b') : aH (H.set b x) b' = aH H b' := by
 unfold aH; rw [jR h]
theorem Gf {H T : Heap} {b : Nat} (h : b < H.length) : aH (H ++ T) b = aH H b := by
 unfold aH; rw [av h]
def Bw (fp : Fp) (H H' : Heap) (v : AV) (f : Heap -> Option (AV × Heap × Fp)) : Prop :=
 (fp = .no -> H' = H /\ ∀ H2,f H2 = some (v,H2,.no)) /\ (∀ b,fp = .rd b -> H' = H /\ ∀ H2,aH H2 b = aH H b -> f H2 = some (v,H2,.rd b)) /\ (fp = .ra -> H' = H) /\
 (∀ n bs,fp = .wr n bs -> ∀ b,b < n -> b ∉ bs -> aH H' b = aH H b)
theorem Bw.wr0 {H H' : Heap} {v : AV} {f : Heap -> Option (AV × Heap × Fp)} : Bw (.wr 0 []) H H' v f :=
 ⟨(fun h => by cases h),(fun b h => by cases h),(fun h => by cases h),fun n bs h b hb => by cases h; omega⟩
theorem Bw.no {H : Heap} {v : AV} {f : Heap -> Option (AV × Heap × Fp)} (h : ∀ H2,f H2 = some (v,H2,.no)) : Bw .no H H v f :=
 ⟨fun _ => ⟨rfl,h⟩,(fun b h => by cases h),fun _ => rfl,(fun n bs h => by cases h)⟩
theorem Bw.ra {H : Heap} {v : AV} {f : Heap -> Option (AV × Heap × Fp)} : Bw .ra H H v f :=
 ⟨(fun h => by cases h),(fun b h => by cases h),fun _ => rfl,(fun n bs h => by cases h)⟩
theorem Bw.rd {H : Heap} {v : AV} {b : Nat} {f : Heap -> Option (AV × Heap × Fp)} (h : ∀ H2,aH H2 b = aH H b -> f H2 = some (v,H2,.rd b)) : Bw (.rd b) H H v f :=
 ⟨(fun h => by cases h),(fun b' hb => by cases hb; exact ⟨rfl,h⟩),fun _ => rfl,(fun n bs h => by cases h)⟩
theorem Bw.wr {H H' : Heap} {v : AV} {n : Nat} {bs : List Nat} {f : Heap -> Option (AV × Heap × Fp)} (h : ∀ b,b < n -> b ∉ bs -> aH H' b = aH H b) : Bw (.wr n bs) H H' v f :=
 ⟨(fun h => by cases h),(fun b h => by cases h),(fun h => by cases h),fun n' bs' e => by cases e; exact h⟩
theorem IX {f : Nat} {args : List AV} {H H' : Heap} {v : AV} {fl : Fp} (h : uX c call f args H = some (v,H',fl)) : Bw fl H H' v (uX c call f args) := by
 unfold uX at h;split at h
 ·cases h
 ·split at h
  ·simp at h; obtain ⟨_,_,rfl⟩ := h; exact .wr0
  ·cases h
 ·split at h
  ·split at h
   ·split at h
    ·simp at h; obtain ⟨_,_,rfl⟩ := h; exact .wr0
    ·cases h
   ·cases h
  ·cases h
 ·rename_i q hf;split at h
  ·rename_i hp;split at h
   ·rename_i r H1 hr;split at h
    ·rename_i r' bs hz;simp at h;obtain ⟨rfl,rfl,rfl⟩ := h;exact .no fun H2 => by simp [uX,hf,hp,hr,hz]
    ·cases h
   ·cases h
  ·split at h
   ·split at h
    ·split at h
     ·split at h
      ·simp at h; obtain ⟨_,rfl,rfl⟩ := h; exact .ra
      ·simp at h; obtain ⟨_,_,rfl⟩ := h; exact .wr0
     ·cases h
    ·cases h
   ·cases h
theorem Y5 {env : Env} {H H' : Heap} {kd : Kd} {v : AV} {fl : Fp} (h : fG c call env H kd = some (v,H',fl)) : Bw fl H H' v (fun H2 => fG c call env H2 kd) := by
 have app : ∀ {T : Heap} (b : Nat),b < H.length -> b ∉ ([] : List Nat) -> aH (H ++ T) b = aH H b := fun b hb _ => Gf hb;have st : ∀ {x : Ql} {b0 : Nat} (b : Nat),b < H.length -> b ∉ [b0] -> aH (H.set b0 x) b = aH H b := fun b _ hn => Gd (by simp at hn; exact fun e => hn e.symm)
 have mv : ∀ {x : Ql} {T : Heap} {b0 : Nat} (b : Nat),b < H.length -> b ∉ [b0] -> aH (H.set b0 x ++ T) b = aH H b := fun b hb hn => by
  rw [Gf (by simpa using hb)]; exact Gd (by simp at hn; exact fun e => hn e.symm)
 have same : ∀ (b : Nat),b < H.length -> b ∉ ([] : List Nat) -> aH H b = aH H b := fun _ _ _ => rfl;cases kd
 case call f xs => simp only [fG] at h ⊢; exact IX h
 case gw x xs =>
  simp only [fG] at h ⊢;split at h
  ·exact IX h
  ·cases h
 case ld ag x =>
  simp only [fG] at h ⊢;split at h
  ·rename_i cs hx;split at h
   ·rename_i u hu;simp at h;obtain ⟨rfl,rfl,rfl⟩ := h;exact .no fun H2 => by simp [hu]
   ·cases h
  ·rename_i b off hx;split at h
   ·rename_i cs hb;split at h
    ·rename_i u hu;simp at h;obtain ⟨rfl,rfl,rfl⟩ := h;exact .rd fun H2 h2 => by simp [h2,hb,hu]
    ·cases h
   ·cases h
  ·cases h
 case I8 n x hi =>
  simp only [fG] at h ⊢;split at h
  case h_2 => cases h
  rename_i m hm;split at h
  ·split at h
   ·rename_i hc;simp at h;obtain ⟨rfl,rfl,rfl⟩ := h;exact .no fun H2 => by simp [hc]
   ·cases h
  ·rename_i b off hx;split at h
   ·rename_i cs hb;split at h
    ·rename_i hc;simp at h;obtain ⟨rfl,rfl,rfl⟩ := h;exact .rd fun H2 h2 => by simp [h2,hb,hc]
    ·cases h
   ·cases h
  ·cases h
 all_goals simp only [fG] at h ⊢
 all_goals
  (repeat' split at h)
  all_goals first
   | (cases h; done)
   | (simp at h; obtain ⟨rfl,rfl,rfl⟩ := h; first | exact .wr app | exact .wr st | exact .wr mv | exact .wr same | (refine .no fun H2 => ?_; simp_all; done))
def oT (c : dN) (call : Nat -> List AV -> Heap -> Option (AV × Heap)) (env : Env) (H : Heap) (o : O) : Option (AV × Heap × Fp) :=
 match o.guard with
 | none => fG c call env H o.kd
 | some (g,want) => match get env g with
   | .bool b => if b = want then fG c call env H o.kd else some (.undef,H,.no)
   | .undef => some (.undef,H,.no)
   | _ => none
theorem uf {e1 e2 : Env} {H : Heap} {q : O} (h : ∀ i ∈ q.reads,get e1 i = get e2 i) : oT c call e1 H q = oT c call e2 H q := by
 unfold oT;unfold O.reads at h;simp only [aD] at h;cases hg : q.guard with
 | none => simp only [hg] at h ⊢; exact Ja fun i hi => h i (.inr hi)
 | some p =>
   obtain ⟨g,want⟩ := p;simp only [hg] at h ⊢;rw [h g (.inl (by simp)),Ja fun i hi => h i (.inr hi)]
theorem KC {env : Env} {H H' : Heap} {q : O} {v : AV} {fl : Fp} (h : oT c call env H q = some (v,H',fl)) : Bw fl H H' v (fun H2 => oT c call env H2 q) := by
 unfold oT at h ⊢;cases hg : q.guard with
 | none => simp only [hg] at h ⊢; exact Y5 h
 | some p =>
   obtain ⟨g,want⟩ := p;simp only [hg] at h ⊢;split at h
   ·split at h
    ·rename_i PL; simp only [PL,if_true]; exact Y5 h
    ·rename_i PL; simp only [PL,if_false]; simp at h; obtain ⟨rfl,rfl,rfl⟩ := h; exact .no fun _ => rfl
   ·simp at h; obtain ⟨rfl,rfl,rfl⟩ := h; exact .no fun _ => rfl
   ·cases h
theorem mem_iff {i : Nat} : ∀ {l : List Nat},mem i l = true ↔ i ∈ l
 | [] => by simp [mem]
 | j :: r => by
   unfold mem;split
   ·rename_i h; simp [h]
   ·rename_i h; rw [mem_iff]; simp [h]
theorem jw {env : Env} {d : Option Nat} {v : AV} {i : Nat} (h : d ≠ some i) : get (rI env d v) i = get env i := by
 cases d with
 | none => rfl
 | some d => simp only [rI,br]; rw [if_neg fun e => h (by rw [e])]
theorem aaS {env : Env} {H H1 H2 : Heap} {x y : O} {v1 v2 : AV} {f1 f2 : Fp} (hx : oT c call env H x = some (v1,H1,f1)) (hy : oT c call (rI env x.dst v1) H1 y = some (v2,H2,f2))
  (Bg : ja x y = true) (hf : f1.ok f2 = true) :
  ∃ H2',oT c call env H y = some (v2,H2',f2) /\ oT c call (rI env y.dst v2) H2' x = some (v1,H2,f1) /\ ∀ i,get (rI (rI env x.dst v1) y.dst v2) i = get (rI (rI env y.dst v2) x.dst v1) i := by
 have a1 : ∀ d,x.dst = some d -> d ∉ y.reads /\ y.dst ≠ some d := by
  intro d hd;simp only [ja,hd,ab,bt,decide_eq_true_eq] at Bg;refine ⟨fun h => ?_,Bg.1.2⟩;have := mem_iff.2 h;rw [Bg.1.1] at this;cases this
 have a2 : ∀ d,y.dst = some d -> d ∉ x.reads := by
  intro d hd h;simp only [ja,hd,ab,bt] at Bg;have := mem_iff.2 h;rw [Bg.2] at this;cases this
 have cy : ∀ Hq,oT c call (rI env x.dst v1) Hq y = oT c call env Hq y := fun Hq => uf fun i hi => jw fun e => (a1 i e).1 hi;have cx : ∀ Hq,oT c call (rI env y.dst v2) Hq x = oT c call env Hq x := fun Hq => uf fun i hi => jw fun e => a2 i e hi
 have he : ∀ i,get (rI (rI env x.dst v1) y.dst v2) i = get (rI (rI env y.dst v2) x.dst v1) i := by
  intro i;by_cases h1 : x.dst = some i
  ·have h2 := (a1 i h1).2;rw [jw h2,h1];simp [rI,br]
  ·rw [jw (env := rI env y.dst v2) h1];by_cases h2 : y.dst = some i
   ·rw [h2]; simp [rI,br]
   ·rw [jw h2,jw h2,jw h1]
 rw [cy] at hy;obtain ⟨g0,g1,g2,g3⟩ := KC hx;obtain ⟨k0,k1,k2,k3⟩ := KC hy;have nm : ∀ {b : Nat} {bs : List Nat},mem b bs = false -> b ∉ bs := fun h hm => by rw [mem_iff.2 hm] at h; cases h
 cases f1 with
 | no =>
   obtain ⟨rfl,h0⟩ := g0 rfl;exact ⟨H2,hy,by rw [cx]; exact h0 H2,he⟩
 | rd b =>
   obtain ⟨rfl,h0⟩ := g1 b rfl;cases f2 with
   | no => obtain ⟨rfl,_⟩ := k0 rfl; exact ⟨_,hy,by rw [cx]; exact hx,he⟩
   | rd b' => obtain ⟨rfl,_⟩ := k1 b' rfl; exact ⟨_,hy,by rw [cx]; exact hx,he⟩
   | ra => obtain rfl := k2 rfl; exact ⟨_,hy,by rw [cx]; exact hx,he⟩
   | wr n bs =>
     simp only [Fp.ok,ab,decide_eq_true_eq,bt] at hf;exact ⟨H2,hy,by rw [cx]; exact h0 H2 (k3 n bs rfl b hf.1 (nm hf.2)),he⟩
 | ra =>
   obtain rfl := g2 rfl;cases f2 with
   | no => obtain ⟨rfl,_⟩ := k0 rfl; exact ⟨_,hy,by rw [cx]; exact hx,he⟩
   | rd b' => obtain ⟨rfl,_⟩ := k1 b' rfl; exact ⟨_,hy,by rw [cx]; exact hx,he⟩
   | ra => obtain rfl := k2 rfl; exact ⟨_,hy,by rw [cx]; exact hx,he⟩
   | wr n bs => simp [Fp.ok] at hf
 | wr n bs =>
   cases f2 with
   | no => obtain ⟨rfl,h0⟩ := k0 rfl; exact ⟨H,h0 H,by rw [cx]; exact hx,he⟩
   | rd b =>
     obtain ⟨rfl,h0⟩ := k1 b rfl;simp only [Fp.ok,ab,decide_eq_true_eq,bt] at hf;exact ⟨H,h0 H (g3 n bs rfl b hf.1 (nm hf.2)).symm,by rw [cx]; exact hx,he⟩
   | ra => simp [Fp.ok] at hf
   | wr n' bs' => simp [Fp.ok] at hf

abbrev Ent := Nat × Oper × O × Fp
def Kh (c : dN) (call : Nat -> List AV -> Heap -> Option (AV × Heap)) : List Ent -> Env -> Heap -> Env -> Heap -> Prop
 | [],e,H,e',H' => (∀ i,get e i = get e' i) /\ H = H'
 | p :: r,e,H,e',H' => ∃ v H1,oT c call e H p.2.2.1 = some (v,H1,p.2.2.2) /\ Kh c call r (rI e p.2.2.1.dst v) H1 e' H'
theorem Kh.congr : ∀ {R : List Ent} {e1 e2 : Env} {H : Heap} {e' : Env} {H' : Heap},(∀ i,get e1 i = get e2 i) -> Kh c call R e1 H e' H' -> Kh c call R e2 H e' H'
 | [],e1,e2,H,e',H',h,hr => ⟨fun i => (h i).symm.trans (hr.1 i),hr.2⟩
 | p :: r,e1,e2,H,e',H',h,⟨v,H1,h1,h2⟩ => by
   refine ⟨v,H1,by rw [<- uf fun i _ => h i]; exact h1,Kh.congr (fun i => ?_) h2⟩;cases hd : p.2.2.1.dst with
   | none => exact h i
   | some d => simp only [rI,br]; rw [h i]
theorem Kh.Kb {x : Ent} : ∀ {R1 R2 : List Ent} {e : Env} {H : Heap} {e' : Env} {H' : Heap},(∀ p ∈ R1,ja p.2.2.1 x.2.2.1 = true /\ p.2.2.2.ok x.2.2.2 = true) -> Kh c call (R1 ++ x :: R2) e H e' H' -> Kh c call (x :: (R1 ++ R2)) e H e' H'
 | [],R2,e,H,e',H',_,hr => hr
 | p :: R1,R2,e,H,e',H',h,⟨v,H1,h1,h2⟩ => by
   obtain ⟨v2,H2,h3,h4⟩ := Kh.Kb (fun q hq => h q (by simp [hq])) h2;obtain ⟨Bg,hf⟩ := h p (by simp);obtain ⟨H2',k1,k2,k3⟩ := aaS h1 h3 Bg hf;exact ⟨v2,H2',k1,v,H2,k2,h4.congr k3⟩

inductive Anc (ops : Array Oper) (i : Nat) : Nat -> Prop
 | one {j : Nat} {o : Oper} (ho : ops[j]? = some o) (h : i ∈ direct o) : Anc ops i j
 | via {j k : Nat} {o : Oper} (ho : ops[j]? = some o) (h : k ∈ direct o) (ha : Anc ops i k) : Anc ops i j
theorem xI {o : Oper} {i : Nat} : i ∈ direct o ↔ ∃ e ∈ o.after,Region.binds .any e = true /\ e.on = i := by
 unfold direct;simp only [List.mem_map,List.mem_filter,Oz];constructor
 ·rintro ⟨e,⟨h1,h2⟩,h3⟩; exact ⟨e,h1,h2,h3⟩
 ·rintro ⟨e,h1,h2,h3⟩; exact ⟨e,⟨h1,h2⟩,h3⟩
def Qi (ops : Array Oper) (listed : Array Bool) : Prop := ∀ j o,ops[j]? = some o -> listed.getD j false = true -> ∀ i ∈ direct o,listed.getD i false = true
theorem Qi.Ad {ops : Array Oper} {listed : Array Bool} (h : Qi ops listed) {i j : Nat} (ha : Anc ops i j) : ∀ o,ops[j]? = some o -> (∀ k ∈ direct o,listed.getD k false = true) -> listed.getD i false = true := by
 induction ha with
 | one ho hm => intro o ho' hd; rw [ho] at ho'; cases ho'; exact hd _ hm
 | via ho hm ha ih =>
   intro o ho' hd;rw [ho] at ho';cases ho';have hk := hd _ hm;cases ha with
   | one ho2 Zj => exact h _ _ ho2 hk _ Zj
   | via ho2 Zj Zn => exact ih _ ho2 fun l hl => h _ _ ho2 hk l hl
def Y9 (ops : Array Oper) (Ad : List (List Nat)) : Prop := ∀ j l,Ad[j]? = some l -> ∀ i ∈ l,Anc ops i j
theorem v7 {i : Nat} : ∀ {l : List Nat},i ∈ dedup l -> i ∈ l
 | [],h => by simp [dedup] at h
 | x :: r,h => by
   unfold dedup at h;split at h
   ·exact yb _ (v7 h)
   ·rcases aJ.1 h with h | h
    ·subst h; simp
    ·exact yb _ (v7 h)
theorem N7 {ops : Array Oper} {Ad : List (List Nat)} (h : Y9 ops Ad) {j : Nat} {o : Oper} (ho : ops[j]? = some o) : ∀ i ∈ Gt Ad o,Anc ops i j := by
 intro i hi;unfold Gt at hi;rcases aD.1 (v7 hi) with hi | hi
 ·exact .one ho hi
 ·obtain ⟨k,hk,vS⟩ := List.mem_flatMap.1 hi;refine .via ho (v7 hk) ?_;rw [List.getD_eq_getElem?_getD] at vS;cases hl : Ad[k]? with
  | none => rw [hl] at vS; simp at vS
  | some l => rw [hl] at vS; exact h k l hl i vS
end
end Go.Am

/- A run of the compact code is a run of the dump's code; calls; the theorem that ties a call to the kit's 'Calls'. -/
namespace Go.Am
section
variable {P : Program} {c : dN}

def Ex.to : Ex -> Exit
 | .normal => .normal
 | .exit id => .exit id
 | .ret => .ret

def LW (P : Program) (cd : Code) (Q : Exit -> Act -> World -> Prop) (a : Act) (w : World) : Prop :=
 ∀ (b : Frame) (k : List Item) (cs : List Frame),∃ e a' w',Q e a' w' /\ Arrives P (lone (b.at a (.code cd :: .inLoop cd :: k)) cs w) b k cs e a' w'
theorem LW.loop {cd : Code} {Q : Exit -> Act -> World -> Prop} {a : Act} {w : World} (h : LW P cd Q a w) : (Code.loop cd).wp P Q a w := by
 intro b k cs;obtain ⟨e,a',w',hq,Nn⟩ := h b k cs;exact ⟨e,a',w',hq,.of_steps (.one step_loop) Nn⟩
theorem LW.step {cd : Code} {Q : Exit -> Act -> World -> Prop} {a : Act} {w : World} (h : cd.wp P (Exit.then (LW P cd Q) Q) a w) : LW P cd Q a w := by
 intro b k cs;obtain ⟨e,a1,w1,hq,Nn⟩ := h b (.inLoop cd :: k) cs;cases e with
 | normal =>
   obtain ⟨e2,a2,w2,hq2,aeX⟩ := hq b k cs;exact ⟨e2,a2,w2,hq2,.of_steps (Steps.trans Nn (.one step_inLoop)) aeX⟩
 | exit id => exact ⟨_,a1,w1,hq,.pass (x := .inLoop cd) rfl (fun _ _ => .inl (by simp)) Nn⟩
 | goto l => exact ⟨_,a1,w1,hq,.pass (x := .inLoop cd) rfl (fun _ _ => .inl (by simp)) Nn⟩
 | ret => exact ⟨_,a1,w1,hq,.pass (x := .inLoop cd) rfl (fun _ _ => .inl (by simp)) Nn⟩
 | panic ch => exact ⟨_,a1,w1,hq,.pass (x := .inLoop cd) rfl (fun _ _ => .inl (by simp)) Nn⟩
 | outgrown => exact ⟨_,a1,w1,hq,.pass (x := .inLoop cd) rfl (fun _ _ => .inl (by simp)) Nn⟩

theorem rT : ∀ (args : List AV) (k i : Nat),get (dH k args) i = if k <= i then args[i - k]?.getD .any else .any
 | [],k,i => by simp [dH,get]
 | x :: r,k,i => by
   simp only [dH,get];by_cases h : i = k
   ·subst h; simp
   ·rw [if_neg h,rT r (k + 1) i];by_cases h2 : k + 1 <= i
    ·rw [if_pos h2,if_pos (by omega),show i - k = (i - (k + 1)) + 1 by omega,jb]
    ·rw [if_neg h2,if_neg (by omega)]
theorem V7 {X : Nat -> Prop} {φ : de} {w : World} {s : St} {ts : Array Value} (he : nE X φ w s.env ts) (hh : b6 X φ w s.H) : ∀ {rs : List ResultVar} {qs : List Rv} {xs : List AV},Cf P rs qs = true -> KM s.H s.env qs = some xs ->
  ∃ vs : List Value,(rs.mapM (m := Sem) fun
   | .tmp t => pure (ts.getD t undef)
   | .cell a t => do loadVar t (<- asAddr (ts.getD a undef))).run P w = .ok vs w /\ Cs X φ w xs vs
 | [],[],xs,_,h => by simp [KM] at h; subst h; exact ⟨[],rfl,rfl,fun i c v hc => by simp at hc⟩
 | [],_ :: _,_,h,_ => by simp [Cf] at h
 | _ :: _,[],_,h,_ => by simp [Cf] at h
 | r :: rs,q :: qs,xs,h,hx => by
   simp only [Cf,ab] at h;simp only [KM] at hx;split at hx
   case h_2 => cases hx
   rename_i x ys h1 h2;simp at hx;subst hx;obtain ⟨vs,e1,e2⟩ := V7 he hh h.2 h2
   have one : ∃ v,(match r with
    | .tmp t => pure (ts.getD t undef)
    | .cell a t => do loadVar t (<- asAddr (ts.getD a undef)) : Sem Value).run P w = .ok v w /\ bN (Rd X φ w) φ x v := by
    have hr := h.1;unfold chkR at hr;split at hr
    ·rename_i t i;simp at hr;subst hr;simp [V8] at h1;subst h1;exact ⟨_,rfl,he _⟩
    ·rename_i a t i ag;simp only [ab,decide_eq_true_eq] at hr;obtain ⟨rfl,Ks⟩ := hr;have r := he a;simp only [V8] at h1;split at h1
     ·rename_i b off hg;split at h1
      case h_2 => cases h1
      rename_i cs dv;rw [hg] at r;obtain ⟨g,sz,arr,e,h3,_,_,_,_,_,_,h4⟩ := Ku.Ph hh dv r;obtain ⟨u,h5,h6⟩ := JM Ks h1 h4;exact ⟨u,by simp [h3,asAddr,h5],h6⟩
     ·rename_i cs hg;rw [hg] at r;obtain ⟨ad,h3,h4⟩ := Ku.Se r;obtain ⟨u,h5,h6⟩ := JM Ks h1 h4;exact ⟨u,by simp [h3,asAddr,h5],h6⟩
     ·cases h1
    ·cases hr
   obtain ⟨v,e3,e4⟩ := one;refine ⟨v :: vs,?_,by simp [e2.1],fun i c u hc hu => ?_⟩
   ·simp only [List.mapM_cons,Sem.run_bind,Sem.run_pure];rw [e3];simp only [Result.andThen_ok];rw [e1];simp only [Result.andThen_ok]
   ·cases i with
    | zero => simp at hc hu; subst hc; subst hu; exact e4
    | succ i => simp at hc hu; exact e2.2 i c u hc hu
theorem BF {X : Nat -> Prop} {φ : de} {w : World} {s : St} {ts : Array Value} {fn : Func} {qs : List Rv} {xs : List AV} (he : nE X φ w s.env ts) (hh : b6 X φ w s.H) (hc : Cf P fn.results.toList qs = true) (hx : KM s.H s.env qs = some xs) :
  ∃ v,(results fn ts).run P w = .ok v w /\ bN (Rd X φ w) φ (m7 xs) v := by
 obtain ⟨vs,h1,h2⟩ := V7 (P := P) he hh hc hx
 have h3 : (fn.results.mapM (m := Sem) fun
   | .tmp t => pure (ts.getD t undef)
   | .cell a t => do loadVar t (<- asAddr (ts.getD a undef))).run P w = .ok vs.toArray w := by
  rw [<- wi (xs := fn.results),List.mapM_toArray];simp only [Sem.run_map];rw [h1];simp only [Result.andThen_ok]
 have h4 : (results fn ts).run P w = (Result.ok vs.toArray w).andThen (fun (a : Array Value) w' => (pure (if h : a.size = 1 then a[0] else .tuple a) : Sem Value).run P w') := by
  unfold results;simp only [Sem.run_bind];exact congrArg (fun z => Result.andThen z _) h3
 rw [h4];simp only [Result.andThen_ok,Sem.run_pure];refine ⟨_,rfl,?_⟩;obtain ⟨hl,hr⟩ := h2
 match xs,vs,hl,hr with
 | [],[],_,_ => exact .dW _ _ _ rfl fun i c v hc => by simp at hc
 | [x],[v],_,hr => exact hr 0 x v rfl rfl
 | x :: y :: xs,v :: u :: vs,hl,hr =>
   have e : ¬ ((v :: u :: vs).toArray.size = 1) := by simp
   rw [dif_neg e];exact .dW _ _ _ (by simpa using hl) fun i c z hc hz => hr i c z hc (by simpa using hz)

end
end Go.Am
