/- An abstract machine, and its soundness against the model. -/
import Derived.WalkKit
import Derived.Laws.StructEq
import Derived.Laws.MakeOwn
import Derived.Scope
set_option linter.unusedVariables false
/- The abstract machine: values by value, a small heap of own blocks, and an interpreter with fuel for the compact code. -/
open Array renaming getD_eq_getD_getElem? → aZ, getElem?_append_left → qL, getElem?_eq_getElem → Hz, getElem?_eq_some_iff → dX, getElem?_push → Qw, getElem?_toList → jS, length_toList → pf, map → CW, mem_toList_iff → Oj, range → wT, size_append → VD, toArray_toList → wS, toList_inj → fC
open Bool renaming and_eq_true → aa, false_eq_true → bO, not_eq_true' → bD
open List renaming append_assoc → dI, eq_nil_of_length_eq_zero → di, ext_getElem? → dA, getElem?_append_left → ak, getElem?_append_right → aN, getElem?_cons_succ → mK, getElem?_drop → aS, getElem?_map → cU, getElem?_of_mem → bA, getElem?_set → bn, getElem?_set_ne → c9, getElem?_take → bB, getElem?_take_of_lt → aQ, getElem?_toArray → vW, length_append → cM, length_cons → b7, length_drop → dK, length_take → bu, map_cons → dN, map_nil → DB, mem_append → aD, mem_cons → aX, mem_cons_of_mem → fx, size_toArray → q9
open Nat renaming add_mul → bX, add_zero → xn, le_refl → ba, le_trans → Oe, lt_of_lt_of_le → fw, mul_le_mul_right → bG
open Option renaming isSome_iff_exists → aU, map_none → Dg
open Option.some renaming injEq → ai
open Prod.mk renaming injEq → aF
namespace Go.Am

inductive Rt where
 | s (i : Nat) | sc (i j : Nat) | c (b j : Nat)
 deriving DecidableEq,Inhabited
inductive AV where
 | any | undef | eP | eT | dn
 | int (k : IntKind) (n : Int)
 | bool (b : Bool)
 | str (s : ByteArray)
 | agg (cs : List AV)
 | dp (vs : List AV)
 | list (k : Nat) (xs : List AV)
 | dh (cs : List AV)
 | ptr (b off : Nat)
 | sl (k b off len : Nat)
 | func (fn : Fn) (first caps : List AV)
 | own (k : Nat) (xs : List AV)
 | c8 (k : Nat) (p : Rt) (off len : Nat)
 | ez (k : Nat) (p : Rt) (i off : Nat)
 deriving Inhabited

abbrev TQ := Option (List AV)
abbrev Heap := List TQ
abbrev Env := List (Nat × AV)

def kR : Nat := 4294967296

def get : Env -> Nat -> AV
 | [],_ => .any
 | (j,u) :: r,i => if i = j then u else get r i
def put : Env -> Nat -> AV -> Env
 | [],i,v => [(i,v)]
 | (j,u) :: r,i,v => if i < j then (i,v) :: (j,u) :: r else if i = j then (i,v) :: r else (j,u) :: put r i v
def mem : Nat -> List Nat -> Bool
 | _,[] => false
 | i,j :: r => if i = j then true else mem i r
def pI (keep : List Nat) : Env -> Env
 | [] => []
 | (j,u) :: r => if mem j keep then (j,u) :: pI keep r else pI keep r
def rJ (env : Env) (d : Option Nat) (v : AV) : Env :=
 match d with
 | some d => put env d v
 | none => env
def dJ : Nat -> List AV -> Env
 | _,[] => []
 | i,a :: r => (i,a) :: dJ (i + 1) r

def AV.cells : AV -> List AV
 | .agg cs => cs
 | x => [x]
def AV.leaf : AV -> Bool
 | .any | .undef | .agg _ | .dp _ => false
 | _ => true
def bq : List AV -> Bool
 | [] => true
 | x :: r => x.leaf && bq r

mutual
def AV.plain : AV -> Bool
 | .ptr _ _ | .sl _ _ _ _ => false
 | .agg cs => qO cs
 | .dp cs => qO cs
 | .func _ a b => qO a && qO b
 | _ => true
def qO : List AV -> Bool
 | [] => true
 | x :: r => x.plain && qO r
end
mutual
def AV.flat : AV -> Bool
 | .ptr _ _ | .sl _ _ _ _ | .list _ _ | .dh _ => false
 | .agg cs => Gb cs
 | .dp cs => Gb cs
 | .func _ a b => Gb a && Gb b
 | _ => true
def Gb : List AV -> Bool
 | [] => true
 | x :: r => x.flat && Gb r
end
mutual
def AV.ux (n : Nat) : AV -> Bool
 | .ptr b _ => decide (b < n)
 | .sl _ b _ _ => decide (b < n)
 | .agg cs => oY n cs
 | .dp cs => oY n cs
 | .func _ a b => oY n a && oY n b
 | _ => true
def oY (n : Nat) : List AV -> Bool
 | [] => true
 | x :: r => x.ux n && oY n r
end
def yp (n : Nat) : Heap -> Bool
 | [] => true
 | none :: r => yp n r
 | some cs :: r => oY n cs && yp n r

def aJ (H : Heap) (b : Nat) : Option (List AV) :=
 match H[b]? with
 | some (some cs) => some cs
 | _ => none
def el : List AV -> AV
 | [.agg cs] => .agg [.agg cs]
 | [x] => x
 | cs => .agg cs
def Oc (k : Nat) : Nat -> List AV -> List AV
 | 0,_ => []
 | n + 1,cs => el (cs.take k) :: Oc k n (cs.drop k)
def A7 (f : AV -> Option (AV × List Nat)) : List AV -> Option (List AV × List Nat)
 | [] => some ([],[])
 | x :: r => match f x,A7 f r with
   | some (y,b),some (ys,bs) => some (y :: ys,b ++ bs)
   | _,_ => none
def Bu (H : Heap) : Nat -> AV -> Option (AV × List Nat)
 | 0,_ => none
 | n + 1,x => match x with
   | .ptr b off => match aJ H b with
     | some cs => match A7 (Bu H n) (cs.drop off) with
       | some (ys,bs) => some (.dh ys,b :: bs)
       | none => none
     | none => none
   | .sl k b off len => match aJ H b with
     | some cs => if off + len * k <= cs.length then
       match A7 (Bu H n) ((cs.drop off).take (len * k)) with
       | some (ys,bs) => some (.list k (Oc k len ys),b :: bs)
       | none => none
       else none
     | none => none
   | .agg cs => match A7 (Bu H n) cs with
     | some (ys,bs) => some (.agg ys,bs)
     | none => none
   | .dp cs => match A7 (Bu H n) cs with
     | some (ys,bs) => some (.dp ys,bs)
     | none => none
   | .func f a c => match A7 (Bu H n) a,A7 (Bu H n) c with
     | some (ys,bs),some (zs,cs) => some (.func f ys zs,bs ++ cs)
     | _,_ => none
   | x => some (x,[])
def TN (n : Nat) : List Nat -> Bool
 | [] => true
 | b :: r => decide (n <= b) && TN n r
def kill : Heap -> List Nat -> Heap
 | H,[] => H
 | H,b :: r => kill (H.set b none) r
def Qo : Nat := 8

inductive E where
 | t (i : Nat) | k (x : AV) | g (i : Nat)
 deriving Inhabited

inductive Et where
 | bool | str (ints : List Bool) | Pj | Fo | nfn
 deriving Inhabited

inductive Kd where
 | mv (x : E) | pick (c a b : E)
 | new (zs : List AV) | box (x : E)
 | build (zs : List AV) (parts : List (Nat × Nat × E))
 | c5 (k n : Nat) (zs : List AV) (parts : List (Nat × Nat × E))
 | ld (ag : Option Nat) (x : E) | st (k : Nat) (a v : E)
 | mu (x : E)
 | bin (op : BinOp) (x y : E) | eq (neg : Bool) (t : Et) (x y : E) | un (op : UnOp) (x : E) | De (k : IntKind) (x : E)
 | MK (fn : Fn) (first caps : List E)
 | KF (k : Nat) (zs : List AV) (len cap : E)
 | GY (k : Nat) (x : E) (lo hi : Option E)
 | cH (off : Nat) (x : E) | Hw (n : Nat) (x : E) (hi : Option E) | Vb (off : Nat) (ag : Option Nat) (x : E)
 | fa (k : Nat) (x i : E) | He (n k : Nat) (x i : E) | ix (n k : Nat) (ag : Option Nat) (x i : E)
 | ext (i : Nat) (x : E)
 | call (f : Nat) (args : List E) | jm (x : E) (args : List E)
 | UP (tab : List Nat) (i : E) | Vh (k : Nat) (zs : List AV) (x : E)
 | len (x : E) | app (k : Nat) (x y : E) | min (xs : List E) | max (xs : List E) | copy (k : Nat) (x y : E)
 | bad
 deriving Inhabited

structure O where
 dst : Option Nat
 guard : Option (Nat × Bool)
 kd : Kd
 deriving Inhabited

def E.slot : E -> List Nat
 | .t i => [i]
 | _ => []
def mM : List E -> List Nat
 | [] => []
 | x :: r => x.slot ++ mM r
def py : List (Nat × Nat × E) -> List Nat
 | [] => []
 | p :: r => p.2.2.slot ++ py r
def HK : Option E -> List Nat
 | some x => x.slot
 | none => []
def Kd.reads : Kd -> List Nat
 | .mv x | .box x | .ld _ x | .mu x | .un _ x | .De _ x | .cH _ x | .Vb _ _ x | .ext _ x | .len x => x.slot
 | .pick c a b => c.slot ++ (a.slot ++ b.slot)
 | .new _ => []
 | .bad => []
 | .UP _ i => i.slot
 | .Vh _ _ x => x.slot
 | .build _ ps | .c5 _ _ _ ps => py ps
 | .st _ x y | .bin _ x y | .eq _ _ x y | .KF _ _ x y | .fa _ x y | .He _ _ x y | .ix _ _ _ x y | .app _ x y | .copy _ x y => x.slot ++ y.slot
 | .MK _ a b => mM a ++ mM b
 | .GY _ x lo hi => x.slot ++ (HK lo ++ HK hi)
 | .Hw _ x hi => x.slot ++ HK hi
 | .call _ xs | .min xs | .max xs => mM xs
 | .jm x xs => x.slot ++ mM xs
def Kd.pure : Kd -> Bool
 | .mv _ | .pick _ _ _ | .build _ _ | .mu _ | .bin _ _ _ | .eq _ _ _ _ | .un _ _ | .De _ _ | .MK _ _ _ | .GY _ _ _ _ | .cH _ _ | .Vb _ _ _ | .fa _ _ _ | .He _ _ _ _ | .ix _ _ _ _ _ | .ext _ _ | .UP _ _ | .len _ | .min _ | .max _ => true
 | _ => false
def O.reads (o : O) : List Nat := (match o.guard with
 | some (g,_) => [g]
 | none => []) ++ o.kd.reads

inductive Fp where
 | no | rd (b : Nat) | ra | wr (n : Nat) (bs : List Nat)
 deriving Inhabited
def Fp.ok : Fp -> Fp -> Bool
 | .no,_ => true
 | _,.no => true
 | .rd _,.rd _ => true
 | .rd _,.ra => true
 | .ra,.rd _ => true
 | .ra,.ra => true
 | .rd b,.wr n bs => decide (b < n) && !mem b bs
 | .wr n bs,.rd b => decide (b < n) && !mem b bs
 | _,_ => false

inductive C where
 | skip | ret | exit (id : Nat)
 | aH (os : List O) (dr : Bool) (un : List (Nat × Nat)) (keep : List Nat)
 | seq (a b : C) | cond (c : E) (a b : C) | aJ (id : Nat) (b : C) | loop (b : C)
 deriving Inhabited

inductive Md where | P | T | K
 deriving Inhabited
inductive Rv where | t (i : Nat) | c (i : Nat) (ag : Option Nat)
 deriving Inhabited
structure eB where
 n : Nat
 np : Nat
 res : List Rv
 body : C
 deriving Inhabited
structure dR where
 fn : Nat -> Option (Md × eB)
 gl : Nat -> List AV
 orc : Nat -> Option (List AV -> Heap -> Option (AV × Heap))

inductive Ex where | normal | exit (id : Nat) | ret
 deriving Inhabited
structure St where
 env : Env
 H : Heap
 deriving Inhabited

def ev (c : dR) (env : Env) : E -> AV
 | .t i => get env i
 | .k x => x
 | .g i => .dh (c.gl i)
def Dx (c : dR) (env : Env) : List E -> List AV
 | [] => []
 | x :: r => ev c env x :: Dx c env r

def Ay (ag : Option Nat) (cs : List AV) : Option AV :=
 match ag with
 | some k => if k <= cs.length then some (.agg (cs.take k)) else none
 | none => cs.head?
def jK (cs : List AV) (off : Nat) (vs : List AV) : List AV := cs.take off ++ vs ++ cs.drop (off + vs.length)
def idx (x : AV) (len : Nat) : Option Nat :=
 match x with
 | .int _ i => if 0 <= i /\ i < (len : Int) then some i.toNat else none
 | _ => none
def bnd (x : AV) (hi : Nat) : Option Nat :=
 match x with
 | .int _ i => if 0 <= i /\ i <= (hi : Int) then some i.toNat else none
 | _ => none
def Ag (c : dR) (env : Env) (dflt hi : Nat) : Option E -> Option Nat
 | none => some dflt
 | some x => bnd (ev c env x) hi
def nW (c : dR) (env : Env) : List AV -> List (Nat × Nat × E) -> Option (List AV)
 | zs,[] => some zs
 | zs,(off,sz,x) :: r =>
   if (ev c env x).cells.length = sz /\ off + sz <= zs.length /\ bq (ev c env x).cells = true then nW c env (jK zs off (ev c env x).cells) r else none

def arith (op : BinOp) (k : IntKind) (x y : Int) : Option AV :=
 match op with
 | .add => some (.int k (k.wrap (x + y)))
 | .sub => some (.int k (k.wrap (x - y)))
 | .mul => some (.int k (k.wrap (x * y)))
 | .quo => if y = 0 then none else some (.int k (k.wrap (x.tdiv y)))
 | .rem => if y = 0 then none else some (.int k (x.tmod y))
 | .and => some (.int k (bits .and k x y))
 | .or => some (.int k (bits .or k x y))
 | .xor => some (.int k (bits .xor k x y))
 | .andNot => some (.int k (bits .andNot k x y))
 | .eql => some (.bool (x == y))
 | .neq => some (.bool (x != y))
 | .lss => some (.bool (decide (x < y)))
 | .leq => some (.bool (decide (x <= y)))
 | .gtr => some (.bool (decide (y < x)))
 | .geq => some (.bool (decide (y <= x)))
 | _ => none
def tO : List Bool -> List AV -> List AV -> Option Bool
 | [],[],[] => some true
 | true :: l,.int k a :: r,.int k' b :: s => if k = k' then match tO l r s with
   | some e => some (a == b && e)
   | none => none
   else none
 | false :: l,.bool a :: r,.bool b :: s => match tO l r s with
   | some e => some (a == b && e)
   | none => none
 | _,_,_ => none
def isNil : Et -> AV -> Option Bool
 | .Pj,.dn => some true
 | .Pj,.sl _ _ _ _ => some false
 | .Pj,.list _ (_ :: _) => some false
 | .Fo,.eP => some true
 | .Fo,.ptr _ _ => some false
 | .Fo,.dh _ => some false
 | .nfn,.eT => some true
 | .nfn,.func _ _ _ => some false
 | _,_ => none
def Gd : Et -> AV -> AV -> Option Bool
 | .bool,.bool a,.bool b => some (a == b)
 | .str l,.agg xs,.agg ys => tO l xs ys
 | .Pj,x,.dn => isNil .Pj x
 | .Fo,x,.eP => isNil .Fo x
 | .nfn,x,.eT => isNil .nfn x
 | _,_,_ => none
def oM (op : BinOp) (x y : AV) : Option AV :=
 match x,y with
 | .int k a,.int k' b => match op with
   | .shl => if b < 0 then none else some (.int k (k.wrap (a * 2 ^ (min b.toNat k.bits))))
   | .shr => if b < 0 then none else some (.int k (a.fdiv (2 ^ (min b.toNat k.bits))))
   | op => if k = k' then arith op k a b else none
 | _,_ => none
def Oq (op : UnOp) (x : AV) : Option AV :=
 match op,x with
 | .neg,.int k n => some (.int k (k.wrap (0 - n)))
 | .xor,.int k n => some (.int k (bits .xor k (if k.signed then -1 else k.max) n))
 | .not,.bool b => some (.bool (!b))
 | _,_ => none
def aG : List AV -> List AV
 | [] => []
 | x :: r => x.cells ++ aG r
def jo (H : Heap) (k : Nat) : AV -> Option (List AV × Nat)
 | .dn => some ([],0)
 | .list k' xs => if k' = k then some (aG xs,xs.length) else none
 | .sl k' b off len => match aJ H b with
   | some cs => if k' = k /\ off + len * k <= cs.length then some ((cs.drop off).take (len * k),len) else none
   | none => none
 | _ => none
def Yy : AV -> Option Nat
 | .dn => some 0
 | .list _ xs => some xs.length
 | .sl _ _ _ len => some len
 | _ => none
def zK (mx : Bool) : AV -> List AV -> Option AV
 | x,[] => some x
 | .int k a,.int _ b :: r => zK mx (.int k (if mx then (if b > a then b else a) else (if b < a then b else a))) r
 | _,_ => none
def yg (mx : Bool) : List AV -> Option AV
 | .int k a :: r => zK mx (.int k a) r
 | _ => none
def rep (zs : List AV) : Nat -> List AV
 | 0 => []
 | n + 1 => zs ++ rep zs n

def vE (c : dR) (call : Nat -> List AV -> Heap -> Option (AV × Heap)) (f : Nat) (args : List AV) (H : Heap) : Option (AV × Heap × Fp) :=
 match c.fn f with
 | none => none
 | some (.K,_) => match call f args H with
   | some (r,H') => some (r,H',.wr 0 [])
   | none => none
 | some (.T,_) => match call f args H with
   | some (r,H') => match Bu H' Qo r with
     | some (r',bs) => if H.length <= H'.length /\ TN H.length bs = true /\ yp H.length (H'.take H.length) = true then some (r',H'.take H.length,.wr 0 []) else none
     | none => none
   | none => none
 | some (.P,_) => if qO args then
   match call f args [] with
   | some (r,H') => match Bu H' Qo r with
     | some (r',_) => some (r',H,.no)
     | none => none
   | none => none
   else match A7 (Bu H Qo) args with
    | some (qJ,bs) => match call f qJ [] with
      | some (r,H') => match Bu H' Qo r with
        | some (r',_) => if r'.flat then some (r',H,.ra) else some (r',kill H bs,.wr 0 [])
        | none => none
      | none => none
    | none => none

def fc (c : dR) (call : Nat -> List AV -> Heap -> Option (AV × Heap)) (env : Env) (H : Heap) : Kd -> Option (AV × Heap × Fp)
 | .mv x => some (ev c env x,H,.no)
 | .pick t a b => match ev c env t with
   | .bool t => some (if t then ev c env a else ev c env b,H,.no)
   | _ => none
 | .new zs => some (.ptr H.length 0,H ++ [some zs],.wr H.length [])
 | .box x => if bq (ev c env x).cells then some (.ptr H.length 0,H ++ [some (ev c env x).cells],.wr H.length []) else none
 | .build zs ps => match nW c env zs ps with
   | some cs => some (.agg cs,H,.no)
   | none => none
 | .c5 k n zs ps => match nW c env (rep zs n) ps with
   | some cs => if bq cs then some (.sl k H.length 0 n,H ++ [some cs],.wr H.length []) else none
   | none => none
 | .ld ag x => match ev c env x with
   | .dh cs => match Ay ag cs with
     | some v => some (v,H,.no)
     | none => none
   | .ptr b off => match aJ H b with
     | some cs => match Ay ag (cs.drop off) with
       | some v => some (v,H,.rd b)
       | none => none
     | none => none
   | _ => none
 | .st k a v => match ev c env a with
   | .ptr b off => match aJ H b with
     | some cs => if (ev c env v).cells.length = k /\ off + k <= cs.length /\ bq (ev c env v).cells = true then
       some (.undef,H.set b (some (jK cs off (ev c env v).cells)),.wr H.length [b]) else none
     | none => none
   | _ => none
 | .mu x => match ev c env x with
   | .ptr b off => some (.ptr b off,H,.no)
   | .dh cs => some (.dh cs,H,.no)
   | .func (.func f) a b => some (.func (.func f) a b,H,.no)
   | _ => none
 | .bin op x y => match oM op (ev c env x) (ev c env y) with
   | some v => some (v,H,.no)
   | none => none
 | .eq ng t x y => match Gd t (ev c env x) (ev c env y) with
   | some e => some (.bool (if ng then !e else e),H,.no)
   | none => none
 | .un op x => match Oq op (ev c env x) with
   | some v => some (v,H,.no)
   | none => none
 | .De k x => match ev c env x with
   | .int _ n => some (.int k (k.wrap n),H,.no)
   | _ => none
 | .MK fn a b => some (.func fn (Dx c env a) (Dx c env b),H,.no)
 | .KF k zs l cp => match ev c env l,ev c env cp with
   | .int _ l,.int _ cp => if 0 <= l /\ l <= cp /\ cp <= (kR : Int) then some (.sl k H.length 0 l.toNat,H ++ [some (rep zs l.toNat)],.wr H.length []) else none
   | _,_ => none
 | .GY k x lo hi => match Yy (ev c env x) with
   | some n => match Ag c env n n hi with
     | some h => match Ag c env 0 h lo with
       | some l => match ev c env x with
         | .dn => some (.dn,H,.no)
         | .list k' xs => if k' = k then some (.list k ((xs.take h).drop l),H,.no) else none
         | .sl k' b off _ => if k' = k then some (.sl k b (off + l * k) (h - l),H,.no) else none
         | _ => none
       | none => none
     | none => none
   | none => none
 | .cH off x => match ev c env x with
   | .ptr b o => some (.ptr b (o + off),H,.no)
   | .dh cs => some (.dh (cs.drop off),H,.no)
   | _ => none
 | .Hw n x hi => match Ag c env n n hi with
   | some m => match ev c env x with
     | .dh cs => if n <= cs.length /\ m = n /\ bq (cs.take n) = true then some (.list 1 (cs.take n),H,.no) else none
     | .ptr b off => match aJ H b with
       | some cs => if off + n <= cs.length then some (.sl 1 b off m,H,.rd b) else none
       | none => none
     | _ => none
   | none => none
 | .Vb off ag x => match ev c env x with
   | .agg cs => match Ay ag (cs.drop off) with
     | some v => some (v,H,.no)
     | none => none
   | _ => none
 | .fa k x i => match ev c env x with
   | .list k' xs => match idx (ev c env i) xs.length with
     | some j => if k' = k then match xs[j]? with
       | some v => some (.dh v.cells,H,.no)
       | none => none
       else none
     | none => none
   | .sl k' b off len => match idx (ev c env i) len with
     | some j => if k' = k then some (.ptr b (off + j * k),H,.no) else none
     | none => none
   | _ => none
 | .He n k x i => match idx (ev c env i) n with
   | some j => match ev c env x with
     | .ptr b off => some (.ptr b (off + j * k),H,.no)
     | .dh cs => some (.dh (cs.drop (j * k)),H,.no)
     | _ => none
   | none => none
 | .ix n k ag x i => match idx (ev c env i) n with
   | some j => match ev c env x with
     | .agg cs => match Ay ag (cs.drop (j * k)) with
       | some v => some (v,H,.no)
       | none => none
     | _ => none
   | none => none
 | .UP tab i => match idx (ev c env i) tab.length with
   | some j => match tab[j]? with
     | some v => some (.int .u8 v,H,.no)
     | none => none
   | none => none
 | .Vh k zs x => match ev c env x with
   | .dn => some (.undef,H,.wr H.length [])
   | .list _ [] => some (.undef,H,.wr H.length [])
   | .sl k' b off len => if len = 0 then some (.undef,H,.wr H.length []) else match aJ H b with
     | some cs => if k' = k /\ off + len * k <= cs.length then some (.undef,H.set b (some (jK cs off (rep zs len))),.wr H.length [b]) else none
     | none => none
   | _ => none
 | .ext i x => match ev c env x with
   | .dp vs => match vs[i]? with
     | some v => some (v,H,.no)
     | none => none
   | _ => none
 | .call f args => vE c call f (Dx c env args) H
 | .jm x args => match ev c env x with
   | .func (.func f) a b => vE c call f (a ++ Dx c env args ++ b) H
   | _ => none
 | .len x => match Yy (ev c env x) with
   | some n => some (.int .i64 n,H,.no)
   | none => none
 | .app k x y => match jo H k (ev c env y) with
   | some (news,m) => match ev c env x with
     | .dn => if m = 0 then some (.dn,H,.wr H.length []) else if m <= kR /\ bq news = true then some (.sl k H.length 0 m,H ++ [some news],.wr H.length []) else none
     | .sl k' b 0 n => match aJ H b with
       | some cs => if k' = k /\ n * k <= cs.length /\ n + m <= kR /\ bq news = true then some (.sl k H.length 0 (n + m),H.set b none ++ [some (cs.take (n * k) ++ news)],.wr H.length [b]) else none
       | none => none
     | _ => none
   | none => none
 | .min xs => match yg false (Dx c env xs) with
   | some v => some (v,H,.no)
   | none => none
 | .max xs => match yg true (Dx c env xs) with
   | some v => some (v,H,.no)
   | none => none
 | .copy k x y => match jo H k (ev c env y) with
   | some (news,m) => match ev c env x with
     | .dn => some (.int .i64 0,H,.wr H.length [])
     | .sl k' b off n => match aJ H b with
       | some cs => if k' = k /\ off + n * k <= cs.length /\ bq news = true then some (.int .i64 (min m n : Nat),H.set b (some (jK cs off (news.take (min m n * k)))),.wr H.length [b]) else none
       | none => none
     | _ => none
   | none => none
 | .bad => none

def WH (H : Heap) (env : Env) : Rv -> Option AV
 | .t i => some (get env i)
 | .c i ag => match get env i with
   | .ptr b off => match aJ H b with
     | some cs => Ay ag (cs.drop off)
     | none => none
   | .dh cs => Ay ag cs
   | _ => none
def Mb (H : Heap) (env : Env) : List Rv -> Option (List AV)
 | [] => some []
 | r :: rs => match WH H env r,Mb H env rs with
   | some v,some vs => some (v :: vs)
   | _,_ => none
def nJ : List AV -> AV
 | [x] => x
 | vs => .dp vs

end Go.Am

/- How abstract values stand for values of the model in a world. -/
namespace Go.Am

abbrev dq := List (Option (Nat × Nat))
def bN (φ : dq) (g : Nat) : Prop := ∃ b sz : Nat,φ[b]? = some (some (g,sz))
def Rd (X : Nat -> Prop) (φ : dq) (w : World) (a : Addr) (u : Value) : Prop := ¬ X a.block /\ ¬ bN φ a.block /\ w.cell? a = some u

inductive bR (R : Addr -> Value -> Prop) : dq -> AV -> Value -> Prop
 | any (φ : dq) (v : Value) : bR R φ .any v
 | undef (φ : dq) : bR R φ .undef (.tuple #[])
 | eP (φ : dq) : bR R φ .eP (.pointer none)
 | eT (φ : dq) : bR R φ .eT .nilFunc
 | dn (φ : dq) : bR R φ .dn (.slice none 0 0)
 | int (φ : dq) (k : IntKind) (n : Int) : bR R φ (.int k n) (.int k n)
 | bool (φ : dq) (b : Bool) : bR R φ (.bool b) (.bool b)
 | str (φ : dq) (s : ByteArray) : bR R φ (.str s) (.string s)
 | agg (φ : dq) (cs : List AV) (vs : Array Value) (hl : cs.length = vs.size) (h : ∀ (i : Nat) (c : AV) (v : Value),cs[i]? = some c -> vs[i]? = some v -> bR R φ c v) : bR R φ (.agg cs) (.agg vs)
 | dp (φ : dq) (cs : List AV) (vs : Array Value) (hl : cs.length = vs.size) (h : ∀ (i : Nat) (c : AV) (v : Value),cs[i]? = some c -> vs[i]? = some v -> bR R φ c v) : bR R φ (.dp cs) (.tuple vs)
 | func (φ : dq) (f : Fn) (as : List AV) (va : Array Value) (bs : List AV) (vb : Array Value) (CG : as.length = va.size) (CF : bs.length = vb.size)
   (ha : ∀ (i : Nat) (c : AV) (v : Value),as[i]? = some c -> va[i]? = some v -> bR R φ c v) (hb : ∀ (i : Nat) (c : AV) (v : Value),bs[i]? = some c -> vb[i]? = some v -> bR R φ c v) : bR R φ (.func f as bs) (.func f va vb)
 | ub (φ : dq) (k : Nat) (xs : List AV) (a : Addr) (n cap : Nat) (u : Nat -> Nat -> Value) (hn : n = xs.length) (jW : n <= cap) (hk : ∀ x ∈ xs,x.cells.length = k)
   (hu : ∀ (i j : Nat) (x c : AV),xs[i]? = some x -> x.cells[j]? = some c -> R (a.add (i * k + j)) (u i j))
   (h : ∀ (i j : Nat) (x c : AV),xs[i]? = some x -> x.cells[j]? = some c -> bR R [] c (u i j)) : bR R φ (.list k xs) (.slice (some a) n cap)
 | kL (φ : dq) (k : Nat) : bR R φ (.list k []) (.slice none 0 0)
 | dh (φ : dq) (cs : List AV) (a : Addr) (u : Nat -> Value) (hu : ∀ (j : Nat) (c : AV),cs[j]? = some c -> R (a.add j) (u j))
   (h : ∀ (j : Nat) (c : AV),cs[j]? = some c -> bR R [] c (u j)) : bR R φ (.dh cs) (.pointer (some a))
 | ptr (φ : dq) (b off : Nat) (a : Addr) (hb : b < φ.length) (h : ∀ g sz : Nat,φ[b]? = some (some (g,sz)) -> a = ⟨g,off,none⟩) : bR R φ (.ptr b off) (.pointer (some a))
 | sl (φ : dq) (k b off len : Nat) (a : Addr) (cap : Nat) (hb : b < φ.length) (hc : len <= cap)
   (h : ∀ g sz : Nat,φ[b]? = some (some (g,sz)) -> (0 < cap -> a = ⟨g,off,none⟩) /\ off + cap * k <= sz) : bR R φ (.sl k b off len) (.slice (some a) len cap)

theorem bg {α : Type} {l : List α} {i : Nat} (h : i < l.length) : ∃ x,l[i]? = some x := ⟨l[i],List.getElem?_eq_getElem h⟩
theorem c7 {α : Type} {l : Array α} {i : Nat} (h : i < l.size) : ∃ x,l[i]? = some x := ⟨l[i],Hz h⟩
theorem aq {α : Type} {l : List α} {i : Nat} {x : α} (h : l[i]? = some x) : i < l.length := (List.getElem?_eq_some_iff.1 h).1
theorem kQ {α : Type} {l : Array α} {i : Nat} {x : α} (h : l[i]? = some x) : i < l.size := (dX.1 h).1

structure vS (φ φ' : dq) : Prop where
 len : φ.length <= φ'.length
 Is : ∀ (b : Nat) (p : Nat × Nat),b < φ.length -> φ'[b]? = some (some p) -> φ[b]? = some (some p)
theorem vS.refl (φ : dq) : vS φ φ := ⟨ba _,fun _ _ _ h => h⟩
theorem vS.trans {a b c : dq} (h : vS a b) (k : vS b c) : vS a c :=
 ⟨Oe h.len k.len,fun i p hi hp => h.Is i p hi (k.Is i p (fw hi h.len) hp)⟩

theorem bR.mono {R R' : Addr -> Value -> Prop} (hR : ∀ a u,R a u -> R' a u) {φ : dq} {x : AV} {v : Value} (h : bR R φ x v) : ∀ {φ' : dq},vS φ φ' -> bR R' φ' x v := by
 induction h with
 | any => intro φ' _; exact .any _ _
 | undef => intro φ' _; exact .undef _
 | eP => intro φ' _; exact .eP _
 | eT => intro φ' _; exact .eT _
 | dn => intro φ' _; exact .dn _
 | int => intro φ' _; exact .int _ _ _
 | bool => intro φ' _; exact .bool _ _
 | str => intro φ' _; exact .str _ _
 | agg φ cs vs hl h ih => intro φ' hp; exact .agg _ _ _ hl fun i c v h1 h2 => ih i c v h1 h2 hp
 | dp φ cs vs hl h ih => intro φ' hp; exact .dp _ _ _ hl fun i c v h1 h2 => ih i c v h1 h2 hp
 | func φ f as va bs vb CG CF ha hb YJ UT => intro φ' hp; exact .func _ _ _ _ _ _ CG CF (fun i c v h1 h2 => YJ i c v h1 h2 hp) (fun i c v h1 h2 => UT i c v h1 h2 hp)
 | ub φ k xs a n cap u hn jW hk hu h ih => intro φ' _; exact .ub _ _ _ _ _ _ u hn jW hk (fun i j x c h1 h2 => hR _ _ (hu i j x c h1 h2)) (fun i j x c h1 h2 => ih i j x c h1 h2 (.refl _))
 | kL => intro φ' _; exact .kL _ _
 | dh φ cs a u hu h ih => intro φ' _; exact .dh _ _ _ u (fun j c h1 => hR _ _ (hu j c h1)) (fun j c h1 => ih j c h1 (.refl _))
 | ptr φ b off a hb h => intro φ' hp; exact .ptr _ _ _ _ (fw hb hp.len) fun g sz hg => h g sz (hp.Is _ _ hb hg)
 | sl φ k b off len a cap hb hc h => intro φ' hp; exact .sl _ _ _ _ _ _ _ (fw hb hp.len) hc fun g sz hg => h g sz (hp.Is _ _ hb hg)

theorem pA {cs : List AV} (h : qO cs = true) : ∀ (i : Nat) (c : AV),cs[i]? = some c -> c.plain = true := by
 induction cs with
 | nil => intro i c hc; simp at hc
 | cons x r ih =>
   simp only [qO,aa] at h;intro i c hc;cases i with
   | zero => simp at hc; subst hc; exact h.1
   | succ i => simp at hc; exact ih h.2 i c hc
theorem wK {cs : List AV} (h : Gb cs = true) : ∀ (i : Nat) (c : AV),cs[i]? = some c -> c.flat = true := by
 induction cs with
 | nil => intro i c hc; simp at hc
 | cons x r ih =>
   simp only [Gb,aa] at h;intro i c hc;cases i with
   | zero => simp at hc; subst hc; exact h.1
   | succ i => simp at hc; exact ih h.2 i c hc
theorem nO {n : Nat} {cs : List AV} (h : oY n cs = true) : ∀ (i : Nat) (c : AV),cs[i]? = some c -> c.ux n = true := by
 induction cs with
 | nil => intro i c hc; simp at hc
 | cons x r ih =>
   simp only [oY,aa] at h;intro i c hc;cases i with
   | zero => simp at hc; subst hc; exact h.1
   | succ i => simp at hc; exact ih h.2 i c hc
theorem vP {cs : List AV} (h : bq cs = true) : ∀ (i : Nat) (c : AV),cs[i]? = some c -> c.leaf = true := by
 induction cs with
 | nil => intro i c hc; simp at hc
 | cons x r ih =>
   simp only [bq,aa] at h;intro i c hc;cases i with
   | zero => simp at hc; subst hc; exact h.1
   | succ i => simp at hc; exact ih h.2 i c hc

theorem bR.dB {R : Addr -> Value -> Prop} {φ : dq} {x : AV} {v : Value} (h : bR R φ x v) : x.plain = true -> ∀ ψ,bR R ψ x v := by
 induction h with
 | any => intro _ ψ; exact .any _ _
 | undef => intro _ ψ; exact .undef _
 | eP => intro _ ψ; exact .eP _
 | eT => intro _ ψ; exact .eT _
 | dn => intro _ ψ; exact .dn _
 | int => intro _ ψ; exact .int _ _ _
 | bool => intro _ ψ; exact .bool _ _
 | str => intro _ ψ; exact .str _ _
 | agg φ cs vs hl h ih => intro hp ψ; simp only [AV.plain] at hp; exact .agg _ _ _ hl fun i c v h1 h2 => ih i c v h1 h2 (pA hp i c h1) ψ
 | dp φ cs vs hl h ih => intro hp ψ; simp only [AV.plain] at hp; exact .dp _ _ _ hl fun i c v h1 h2 => ih i c v h1 h2 (pA hp i c h1) ψ
 | func φ f as va bs vb CG CF ha hb YJ UT =>
   intro hp ψ;simp only [AV.plain,aa] at hp;exact .func _ _ _ _ _ _ CG CF (fun i c v h1 h2 => YJ i c v h1 h2 (pA hp.1 i c h1) ψ) (fun i c v h1 h2 => UT i c v h1 h2 (pA hp.2 i c h1) ψ)
 | ub φ k xs a n cap u hn jW hk hu h ih => intro _ ψ; exact .ub _ _ _ _ _ _ u hn jW hk hu h
 | kL => intro _ ψ; exact .kL _ _
 | dh φ cs a u hu h ih => intro _ ψ; exact .dh _ _ _ u hu h
 | ptr => intro hp; simp [AV.plain] at hp
 | sl => intro hp; simp [AV.plain] at hp
theorem bR.of_flat {R : Addr -> Value -> Prop} {φ : dq} {x : AV} {v : Value} (h : bR R φ x v) : x.flat = true -> ∀ (R' : Addr -> Value -> Prop) ψ,bR R' ψ x v := by
 induction h with
 | any => intro _ _ ψ; exact .any _ _
 | undef => intro _ _ ψ; exact .undef _
 | eP => intro _ _ ψ; exact .eP _
 | eT => intro _ _ ψ; exact .eT _
 | dn => intro _ _ ψ; exact .dn _
 | int => intro _ _ ψ; exact .int _ _ _
 | bool => intro _ _ ψ; exact .bool _ _
 | str => intro _ _ ψ; exact .str _ _
 | agg φ cs vs hl h ih => intro hp R' ψ; simp only [AV.flat] at hp; exact .agg _ _ _ hl fun i c v h1 h2 => ih i c v h1 h2 (wK hp i c h1) R' ψ
 | dp φ cs vs hl h ih => intro hp R' ψ; simp only [AV.flat] at hp; exact .dp _ _ _ hl fun i c v h1 h2 => ih i c v h1 h2 (wK hp i c h1) R' ψ
 | func φ f as va bs vb CG CF ha hb YJ UT =>
   intro hp R' ψ;simp only [AV.flat,aa] at hp;exact .func _ _ _ _ _ _ CG CF (fun i c v h1 h2 => YJ i c v h1 h2 (wK hp.1 i c h1) R' ψ) (fun i c v h1 h2 => UT i c v h1 h2 (wK hp.2 i c h1) R' ψ)
 | ub => intro hp; simp [AV.flat] at hp
 | kL => intro hp; simp [AV.flat] at hp
 | dh => intro hp; simp [AV.flat] at hp
 | ptr => intro hp; simp [AV.flat] at hp
 | sl => intro hp; simp [AV.flat] at hp
theorem bR.take {R : Addr -> Value -> Prop} {φ : dq} {x : AV} {v : Value} {n : Nat} (h : bR R φ x v) : x.ux n = true -> bR R (φ.take n) x v := by
 induction h with
 | any => intro _; exact .any _ _
 | undef => intro _; exact .undef _
 | eP => intro _; exact .eP _
 | eT => intro _; exact .eT _
 | dn => intro _; exact .dn _
 | int => intro _; exact .int _ _ _
 | bool => intro _; exact .bool _ _
 | str => intro _; exact .str _ _
 | agg φ cs vs hl h ih => intro hp; simp only [AV.ux] at hp; exact .agg _ _ _ hl fun i c v h1 h2 => ih i c v h1 h2 (nO hp i c h1)
 | dp φ cs vs hl h ih => intro hp; simp only [AV.ux] at hp; exact .dp _ _ _ hl fun i c v h1 h2 => ih i c v h1 h2 (nO hp i c h1)
 | func φ f as va bs vb CG CF ha hb YJ UT =>
   intro hp;simp only [AV.ux,aa] at hp;exact .func _ _ _ _ _ _ CG CF (fun i c v h1 h2 => YJ i c v h1 h2 (nO hp.1 i c h1)) (fun i c v h1 h2 => UT i c v h1 h2 (nO hp.2 i c h1))
 | ub φ k xs a n cap u hn jW hk hu h ih => intro _; exact .ub _ _ _ _ _ _ u hn jW hk hu h
 | kL => intro _; exact .kL _ _
 | dh φ cs a u hu h ih => intro _; exact .dh _ _ _ u hu h
 | ptr φ b off a hb h =>
   intro hp;have Tq : b < n := by simpa [AV.ux] using hp
   refine .ptr _ _ _ _ (by rw [bu]; omega) fun g sz hg => h g sz ?_;rw [aQ Tq] at hg;exact hg
 | sl φ k b off len a cap hb hc h =>
   intro hp;have Tq : b < n := by simpa [AV.ux] using hp
   refine .sl _ _ _ _ _ _ _ (by rw [bu]; omega) hc fun g sz hg => h g sz ?_;rw [aQ Tq] at hg;exact hg
theorem bR.sQ {R : Addr -> Value -> Prop} {φ : dq} {x : AV} {v : Value} (h : bR R φ x v) (hl : x.leaf = true) : v.oneCell' = true := by
 cases h <;> first | rfl | simp [AV.leaf] at hl

theorem bR.cells {R : Addr -> Value -> Prop} {φ : dq} {x : AV} {v : Value} (h : bR R φ x v) (hs : bq x.cells = true) :
  x.cells.length = v.cells.size /\ ∀ (i : Nat) (c : AV),x.cells[i]? = some c -> ∃ u,v.cells[i]? = some u /\ bR R φ c u /\ u.oneCell' = true := by
 have one : ∀ {x : AV} {v : Value},x.cells = [x] -> v.cells = #[v] -> bR R φ x v -> bq x.cells = true ->
   x.cells.length = v.cells.size /\ ∀ (i : Nat) (c : AV),x.cells[i]? = some c -> ∃ u,v.cells[i]? = some u /\ bR R φ c u /\ u.oneCell' = true := by
  intro x v hx hv h hs;rw [hx,hv];refine ⟨rfl,fun i c hc => ?_⟩;cases i with
  | zero =>
    simp at hc; subst hc;refine ⟨v,by simp,h,h.sQ ?_⟩;rw [hx] at hs; simpa [bq] using hs
  | succ i => simp at hc
 cases h with
 | any => simp [AV.cells,bq,AV.leaf] at hs
 | agg φ cs vs hl h =>
   refine ⟨hl,fun i c hc => ?_⟩;have hi : i < vs.size := hl ▸ aq hc;obtain ⟨u,hu⟩ := c7 hi;exact ⟨u,hu,h i c u hc hu,(h i c u hc hu).sQ (vP hs i c hc)⟩
 | _ => exact one rfl rfl (by first | exact .undef _ | exact .eP _ | exact .eT _ | exact .dn _ | exact .int _ _ _ | exact .bool _ _ | exact .str _ _ | exact .kL _ _ | (constructor <;> assumption)) hs

structure b8 (X : Nat -> Prop) (φ : dq) (w : World) (H : Heap) : Prop where
 len : φ.length = H.length
 G7 : ∀ g,X g -> g < w.heap.size
 live : ∀ (b : Nat) (cs : List AV),H[b]? = some (some cs) -> ∃ (g sz : Nat) (arr : Array Value) (e : TypeId),φ[b]? = some (some (g,sz)) /\ w.heap[g]? = some (.cells arr e (0,0)) /\ arr.size = sz /\ cs.length <= sz /\ ¬ X g /\
  ∀ (i : Nat) (c : AV),cs[i]? = some c -> ∃ u,arr[i]? = some u /\ bR (Rd X φ w) φ c u
 dead : ∀ b : Nat,H[b]? = some none -> φ[b]? = some none
 inj : ∀ b b' g sz nC : Nat,φ[b]? = some (some (g,sz)) -> φ[b']? = some (some (g,nC)) -> b = b'

structure eZ (φ : dq) (w : World) (φ' : dq) (w' : World) : Prop where
 os : w'.os = w.os
 tape : w'.tape = w.tape
 output : w'.output = w.output
 drawn : w.drawn <= w'.drawn
 size : w.heap.size <= w'.heap.size
 keep : ∀ g,g < w.heap.size -> ¬ bN φ g -> w'.heap[g]? = w.heap[g]? /\ ¬ bN φ' g
 SC : vS φ φ'
theorem eZ.refl (φ : dq) (w : World) : eZ φ w φ w := ⟨rfl,rfl,rfl,ba _,ba _,fun _ _ h => ⟨rfl,h⟩,.refl _⟩
theorem eZ.trans {φ φ' n9 : dq} {w w' VE : World} (h : eZ φ w φ' w') (k : eZ φ' w' n9 VE) : eZ φ w n9 VE :=
 ⟨k.os.trans h.os,k.tape.trans h.tape,k.output.trans h.output,Oe h.drawn k.drawn,Oe h.size k.size,
  fun g hg ho => ⟨(k.keep g (fw hg h.size) (h.keep g hg ho).2).1.trans (h.keep g hg ho).1,(k.keep g (fw hg h.size) (h.keep g hg ho).2).2⟩,h.SC.trans k.SC⟩
theorem eZ.rd {X : Nat -> Prop} {φ φ' : dq} {w w' : World} (h : eZ φ w φ' w') : ∀ a u,Rd X φ w a u -> Rd X φ' w' a u := by
 intro a u ⟨h1,h2,h3⟩;have bz := World.block_lt_of_cell? w a h3;exact ⟨h1,(h.keep _ bz h2).2,(World.cell?_of_block (h.keep _ bz h2).1).trans h3⟩
theorem eZ.rep {X : Nat -> Prop} {φ φ' : dq} {w w' : World} (h : eZ φ w φ' w') {x : AV} {v : Value} (r : bR (Rd X φ w) φ x v) : bR (Rd X φ' w') φ' x v := r.mono h.rd h.SC
theorem eZ.drew (φ : dq) (w : World) : eZ φ w φ w.drew := ⟨rfl,rfl,rfl,Nat.le_succ _,ba _,fun _ _ h => ⟨rfl,h⟩,.refl _⟩

def n7 (X : Nat -> Prop) (φ : dq) (w : World) (env : Env) (tmps : Array Value) : Prop := ∀ i,bR (Rd X φ w) φ (get env i) (tmps.getD i undef)
theorem bw (env : Env) (d : Nat) (v : AV) (i : Nat) : get (put env d v) i = if i = d then v else get env i := by
 induction env with
 | nil => by_cases h : i = d <;> simp [put,get,h]
 | cons p r ih =>
   obtain ⟨j,u⟩ := p;unfold put;split
   ·by_cases h : i = d <;> simp [get,h]
   ·split
    ·rename_i h1 h2;subst h2;by_cases h : i = d <;> simp [get,h]
    ·rename_i h1 h2;simp only [get,ih];by_cases h : i = j
     ·subst h; simp [Ne.symm h2]
     ·simp [h]
theorem n7.put {X : Nat -> Prop} {φ : dq} {w : World} {env : Env} {tmps : Array Value} (h : n7 X φ w env tmps) {d : Nat} (hd : d < tmps.size) {x : AV} {v : Value} (r : bR (Rd X φ w) φ x v) :
  n7 X φ w (put env d x) (tmps.setIfInBounds d v) := by
 intro i;rw [bw];by_cases hi : i = d
 ·subst hi;simp [hd,r]
 ·have := h i;simpa [hi,Array.getElem?_setIfInBounds_ne (Ne.symm hi)] using this
theorem n7.nI {X : Nat -> Prop} {φ φ' : dq} {w w' : World} {env : Env} {tmps : Array Value} (h : n7 X φ w env tmps) (k : eZ φ w φ' w') : n7 X φ' w' env tmps := fun i => k.rep (h i)

theorem Addr.add_add (a : Addr) (n m : Nat) : (a.add n).add m = a.add (n + m) := by
 unfold Addr.add;by_cases hn : n = 0
 ·subst hn; simp
 ·by_cases hm : m = 0
  ·subst hm; simp [hn]
  ·simp [hn,hm,Nat.add_assoc]
theorem Addr.jd (g o n : Nat) : Addr.add ⟨g,o,none⟩ n = ⟨g,o + n,none⟩ := Addr.add_lit g o n
end Go.Am

/- The heap relation under the steps of the machine; freezing. -/
namespace Go.Am

theorem vK {H : Heap} {b : Nat} {cs : List AV} (h : aJ H b = some cs) : H[b]? = some (some cs) := by
 unfold aJ at h;split at h
 ·rename_i h'; rw [h']; simpa using h
 ·cases h
theorem b8.at {X : Nat -> Prop} {φ : dq} {w : World} {H : Heap} (h : b8 X φ w H) {b : Nat} {cs : List AV} (hb : aJ H b = some cs) :
  ∃ (g sz : Nat) (arr : Array Value) (e : TypeId),φ[b]? = some (some (g,sz)) /\ w.heap[g]? = some (.cells arr e (0,0)) /\ arr.size = sz /\ cs.length <= sz /\ ¬ X g /\
   ∀ (i : Nat) (c : AV),cs[i]? = some c -> ∃ u,arr[i]? = some u /\ bR (Rd X φ w) φ c u := h.live b cs (vK hb)

theorem bN.nil (g : Nat) : ¬ bN [] g := fun ⟨b,sz,h⟩ => by simp at h
theorem zx {φ : dq} {p : Nat × Nat} {g : Nat} (h : bN (φ ++ [some p]) g) : bN φ g \/ g = p.1 := by
 obtain ⟨b,sz,hb⟩ := h;by_cases bz : b < φ.length
 ·rw [ak bz] at hb;exact .inl ⟨b,sz,hb⟩
 ·rw [aN (by omega)] at hb
  have h0 : b - φ.length = 0 := by
   have := aq hb;simp at this; omega
  rw [h0] at hb;simp at hb;right; rw [hb]
theorem Io {φ : dq} {b g : Nat} (h : bN (φ.set b none) g) : bN φ g := by
 obtain ⟨c,sz,hc⟩ := h;refine ⟨c,sz,?_⟩;rw [bn] at hc;split at hc
 ·split at hc <;> simp at hc
 ·exact hc

theorem eZ.of_same {φ : dq} {w w' : World} {ψ : dq} (h : eZ [] w ψ w') : eZ φ w φ w' :=
 ⟨h.os,h.tape,h.output,h.drawn,h.size,fun g hg ho => ⟨(h.keep g hg (bN.nil g)).1,ho⟩,.refl _⟩
theorem b8.of_same {X : Nat -> Prop} {φ : dq} {w w' : World} {H : Heap} {ψ : dq} (h : b8 X φ w H) (a : eZ [] w ψ w') : b8 X φ w' H := by
 have k : eZ φ w φ w' := eZ.of_same a;refine ⟨h.len,fun g hg => fw (h.G7 g hg) a.size,fun b cs hb => ?_,h.dead,h.inj⟩;obtain ⟨g,sz,arr,e,h1,h2,h3,h4,h5,h6⟩ := h.live b cs hb;refine ⟨g,sz,arr,e,h1,?_,h3,h4,h5,fun i c hc => ?_⟩
 ·rw [(a.keep g (dX.1 h2).1 (bN.nil g)).1]; exact h2
 ·obtain ⟨u,hu,r⟩ := h6 i c hc;exact ⟨u,hu,k.rep r⟩

theorem b8.alloc {X : Nat -> Prop} {φ : dq} {w w' : World} {H : Heap} (h : b8 X φ w H) {arr : Array Value} {e : TypeId} (hw : w'.heap = w.heap.push (.cells arr e (0,0)))
  (ho : w'.os = w.os) (ht : w'.tape = w.tape) (hp : w'.output = w.output) {cs : List AV} (hl : cs.length <= arr.size)
  (hc : ∀ (i : Nat) (c : AV),cs[i]? = some c -> ∃ u,arr[i]? = some u /\ bR (Rd X φ w) φ c u) (hd : w.drawn <= w'.drawn) :
  b8 X (φ ++ [some (w.heap.size,arr.size)]) w' (H ++ [some cs]) /\ eZ φ w (φ ++ [some (w.heap.size,arr.size)]) w' := by
 have own : ∀ g,bN φ g -> g < w.heap.size := by
  intro g ⟨b,sz,hb⟩;have bz : b < H.length := h.len ▸ aq hb;obtain ⟨x,hx⟩ := bg bz;cases x with
  | none => rw [h.dead b hx] at hb; simp at hb
  | some cs =>
    obtain ⟨g',nC,arr,e,h1,h2,_⟩ := h.live b cs hx;rw [h1] at hb;simp at hb;rw [<- hb.1];exact (dX.1 h2).1
 have a : eZ φ w (φ ++ [some (w.heap.size,arr.size)]) w' := by
  refine ⟨ho,ht,hp,hd,by rw [hw]; simp,fun g hg hn => ⟨?_,?_⟩,⟨by simp,fun b p hb hp => ?_⟩⟩
  ·rw [hw,Qw,if_neg (by omega)]
  ·intro ho;rcases zx ho with h1 | h1
   ·exact hn h1
   ·simp at h1; omega
  ·rwa [ak hb] at hp
 refine ⟨⟨by simp [h.len],fun g hg => ?_,fun b ds hb => ?_,fun b hb => ?_,fun b b' g sz nC h1 h2 => ?_⟩,a⟩
 ·rw [hw]; have := h.G7 g hg; simp; omega
 ·by_cases bz : b < H.length
  ·rw [ak bz] at hb;obtain ⟨g,sz,ar,e',h1,h2,h3,h4,h5,h6⟩ := h.live b ds hb;refine ⟨g,sz,ar,e',by rw [ak (by rw [h.len]; exact bz)]; exact h1,?_,h3,h4,h5,fun i c hc => ?_⟩
   ·rw [hw,Qw,if_neg (by have := (dX.1 h2).1; omega)]; exact h2
   ·obtain ⟨u,hu,r⟩ := h6 i c hc;exact ⟨u,hu,a.rep r⟩
  ·have je := aq hb;simp at je;have Db : b = H.length := by omega
   subst Db;simp at hb;subst hb;refine ⟨w.heap.size,arr.size,arr,e,by rw [<- h.len]; simp,by rw [hw]; simp,rfl,hl,fun hx => by have := h.G7 _ hx; omega,fun i c hi => ?_⟩;obtain ⟨u,hu,r⟩ := hc i c hi;exact ⟨u,hu,a.rep r⟩
 ·by_cases bz : b < H.length
  ·rw [ak bz] at hb;rw [ak (by rw [h.len]; exact bz)];exact h.dead b hb
  ·have je := aq hb;simp at je;have Db : b = H.length := by omega
   subst Db;simp at hb
 ·have new : ∀ (b g sz : Nat),(φ ++ [some (w.heap.size,arr.size)])[b]? = some (some (g,sz)) -> (b < φ.length /\ φ[b]? = some (some (g,sz)) /\ g < w.heap.size) \/ (b = φ.length /\ g = w.heap.size) := by
   intro b g sz hb;by_cases bz : b < φ.length
   ·rw [ak bz] at hb;exact .inl ⟨bz,hb,own g ⟨b,sz,hb⟩⟩
   ·have je := aq hb;simp at je;have Db : b = φ.length := by omega
    subst Db;simp at hb;exact .inr ⟨rfl,hb.1.symm⟩
  rcases new b g sz h1 with ⟨l1,e1,g1⟩ | ⟨l1,g1⟩ <;> rcases new b' g nC h2 with ⟨l2,e2,g2⟩ | ⟨l2,g2⟩
  ·exact h.inj b b' g sz nC e1 e2
  ·omega
  ·omega
  ·omega

theorem b8.store {X : Nat -> Prop} {φ : dq} {w w' : World} {H : Heap} (h : b8 X φ w H) {b g sz : Nat} {arr arr' : Array Value} {e : TypeId} {cs' : List AV}
  (lA : φ[b]? = some (some (g,sz))) (hg : w.heap[g]? = some (.cells arr e (0,0))) (oS : arr.size = sz) (hs : arr'.size = arr.size) (hw : w' = w.setRow g arr') (hX : ¬ X g)
  (hl : cs'.length <= arr'.size) (hc : ∀ (i : Nat) (c : AV),cs'[i]? = some c -> ∃ u,arr'[i]? = some u /\ bR (Rd X φ w) φ c u) :
  b8 X φ w' (H.set b (some cs')) /\ eZ φ w φ w' := by
 subst hw;have a : eZ φ w φ (w.setRow g arr') := ⟨rfl,rfl,rfl,ba _,by simp,fun k _ ho => ⟨setRow_other w g k _ (fun e => ho ⟨b,sz,e ▸ lA⟩),ho⟩,.refl _⟩;refine ⟨⟨by simp [h.len],fun k hk => by simpa using h.G7 k hk,fun c ds hb => ?_,fun c hb => ?_,h.inj⟩,a⟩
 ·rw [bn] at hb;split at hb
  ·rename_i G5;subst G5;split at hb
   ·simp at hb;subst hb;refine ⟨g,sz,arr',e,lA,setRow_heap w g arr arr' e _ hg,by omega,by omega,hX,fun i c hi => ?_⟩;obtain ⟨u,hu,r⟩ := hc i c hi;exact ⟨u,hu,a.rep r⟩
   ·simp at hb
  ·rename_i G5;obtain ⟨g',nC,ar,e',h1,h2,h3,h4,h5,h6⟩ := h.live c ds hb;refine ⟨g',nC,ar,e',h1,?_,h3,h4,h5,fun i c hi => ?_⟩
   ·rw [setRow_other w g g' _ (fun eq => G5 (h.inj b c g sz nC lA (eq ▸ h1)))]; exact h2
   ·obtain ⟨u,hu,r⟩ := h6 i c hi;exact ⟨u,hu,a.rep r⟩
 ·rw [bn] at hb;split at hb
  ·split at hb <;> simp at hb
  ·exact h.dead c hb

theorem b8.YD {X : Nat -> Prop} {φ : dq} {w : World} {H : Heap} (h : b8 X φ w H) (b : Nat) : b8 X (φ.set b none) w (H.set b none) /\ eZ φ w (φ.set b none) w := by
 have a : eZ φ w (φ.set b none) w := by
  refine ⟨rfl,rfl,rfl,ba _,ba _,fun g _ ho => ⟨rfl,fun hx => ho (Io hx)⟩,⟨by simp,fun c p hc hp => ?_⟩⟩;rw [bn] at hp;split at hp
  ·split at hp <;> simp at hp
  ·exact hp
 refine ⟨⟨by simp [h.len],h.G7,fun c ds hb => ?_,fun c hb => ?_,fun c c' g sz nC h1 h2 => ?_⟩,a⟩
 ·rw [bn] at hb;split at hb
  ·split at hb <;> simp at hb
  ·rename_i G5;obtain ⟨g',nC,ar,e',h1,h2,h3,h4,h5,h6⟩ := h.live c ds hb;refine ⟨g',nC,ar,e',?_,h2,h3,h4,h5,fun i c hi => ?_⟩
   ·rw [bn,if_neg G5]; exact h1
   ·obtain ⟨u,hu,r⟩ := h6 i c hi;exact ⟨u,hu,a.rep r⟩
 ·rw [bn] at hb ⊢;split at hb
  ·rename_i G5;rw [if_pos G5];split at hb
   ·rename_i bz;rw [if_pos (by rw [h.len]; exact bz)]
   ·simp at hb
  ·rename_i G5;rw [if_neg G5];exact h.dead c hb
 ·have un : ∀ (c g sz : Nat),(φ.set b none)[c]? = some (some (g,sz)) -> φ[c]? = some (some (g,sz)) := by
   intro c g sz hc;rw [bn] at hc;split at hc
   ·split at hc <;> simp at hc
   ·exact hc
  exact h.inj c c' g sz nC (un c g sz h1) (un c' g nC h2)
def M9 : dq -> List Nat -> dq
 | φ,[] => φ
 | φ,b :: r => M9 (φ.set b none) r
theorem b8.kill {X : Nat -> Prop} {w : World} : ∀ (bs : List Nat) {φ : dq} {H : Heap},b8 X φ w H -> b8 X (M9 φ bs) w (kill H bs) /\ eZ φ w (M9 φ bs) w
 | [],φ,H,h => ⟨h,.refl _ _⟩
 | b :: r,φ,H,h => by
   obtain ⟨h1,a1⟩ := h.YD b;obtain ⟨h2,a2⟩ := b8.kill r h1;exact ⟨h2,a1.trans a2⟩
theorem IK : ∀ (bs : List Nat) (φ : dq) (c : Nat) (p : Nat × Nat),(M9 φ bs)[c]? = some (some p) -> φ[c]? = some (some p) /\ c ∉ bs
 | [],φ,c,p,h => ⟨h,by simp⟩
 | b :: r,φ,c,p,h => by
   obtain ⟨h1,h2⟩ := IK r (φ.set b none) c p h;rw [bn] at h1;split at h1
   ·split at h1 <;> simp at h1
   ·rename_i G5;exact ⟨h1,by simp [h2]; exact fun e => G5 e.symm⟩

theorem b8.move {X : Nat -> Prop} {φ : dq} {w w' : World} {H : Heap} (h : b8 X φ w H) {b g sz : Nat} {arr arr' : Array Value} {e : TypeId} {cs' : List AV}
  (lA : φ[b]? = some (some (g,sz))) (hg : w.heap[g]? = some (.cells arr e (0,0))) (oS : arr.size = sz) (hs : arr'.size = arr.size) (hw : w' = w.setRow g arr') (hX : ¬ X g)
  (hl : cs'.length <= arr'.size) (hc : ∀ (i : Nat) (c : AV),cs'[i]? = some c -> ∃ u,arr'[i]? = some u /\ bR (Rd X φ w) φ c u) :
  b8 X (φ.set b none ++ [some (g,sz)]) w' (H.set b none ++ [some cs']) /\ eZ φ w (φ.set b none ++ [some (g,sz)]) w' := by
 subst hw;have Zh : b < φ.length := aq lA
 have look : ∀ (c : Nat) (p : Nat × Nat),(φ.set b none ++ [some (g,sz)])[c]? = some (some p) -> (c < φ.length /\ c ≠ b /\ φ[c]? = some (some p)) \/ (c = φ.length /\ p = (g,sz)) := by
  intro c p hc;by_cases bz : c < φ.length
  ·rw [ak (by simpa using bz),bn] at hc;split at hc
   ·simp_all
   ·rename_i G5; exact .inl ⟨bz,fun e => G5 e.symm,hc⟩
  ·have je := aq hc;simp at je;have Db : c = φ.length := by omega
   subst Db;rw [aN (by simp)] at hc;simp at hc;exact .inr ⟨rfl,hc.symm⟩
 have a : eZ φ w (φ.set b none ++ [some (g,sz)]) (w.setRow g arr') := by
  refine ⟨rfl,rfl,rfl,ba _,by simp,fun k _ ho => ⟨setRow_other w g k _ (fun e => ho ⟨b,sz,e ▸ lA⟩),?_⟩,⟨by simp,fun c p hc hp => ?_⟩⟩
  ·intro ⟨c,s,hc⟩;rcases look c _ hc with ⟨_,_,h1⟩ | ⟨_,h1⟩
   ·exact ho ⟨c,s,h1⟩
   ·simp at h1; exact ho ⟨b,sz,h1.1 ▸ lA⟩
  ·rcases look c p hp with ⟨_,_,h1⟩ | ⟨h1,_⟩
   ·exact h1
   ·omega
 refine ⟨⟨by simp [h.len],fun k hk => by simpa using h.G7 k hk,fun c ds hb => ?_,fun c hb => ?_,fun c c' k s s' h1 h2 => ?_⟩,a⟩
 ·by_cases bz : c < H.length
  ·rw [ak (by simpa using bz),bn] at hb;split at hb
   ·split at hb <;> simp at hb
   ·rename_i G5;obtain ⟨g',nC,ar,e',h1,h2,h3,h4,h5,h6⟩ := h.live c ds hb;refine ⟨g',nC,ar,e',?_,?_,h3,h4,h5,fun i c hi => ?_⟩
    ·rw [ak (by simp [h.len,bz]),bn,if_neg G5]; exact h1
    ·rw [setRow_other w g g' _ (fun eq => G5 (h.inj b c g sz nC lA (eq ▸ h1)))]; exact h2
    ·obtain ⟨u,hu,r⟩ := h6 i c hi;exact ⟨u,hu,a.rep r⟩
  ·have je := aq hb;simp at je;have Db : c = H.length := by omega
   subst Db;rw [aN (by simp)] at hb;simp at hb;subst hb;refine ⟨g,sz,arr',e,?_,setRow_heap w g arr arr' e _ hg,by omega,by omega,hX,fun i c hi => ?_⟩
   ·rw [aN (by simp [h.len])]; simp [h.len]
   ·obtain ⟨u,hu,r⟩ := hc i c hi;exact ⟨u,hu,a.rep r⟩
 ·by_cases bz : c < H.length
  ·rw [ak (by simpa using bz),bn] at hb;rw [ak (by simp [h.len,bz]),bn];split at hb
   ·rename_i G5;rw [if_pos G5,if_pos (by omega)]
   ·rename_i G5;rw [if_neg G5]; exact h.dead c hb
  ·have je := aq hb;simp at je;have Db : c = H.length := by omega
   subst Db;rw [aN (by simp)] at hb;simp at hb
 ·rcases look c _ h1 with ⟨l1,n1,e1⟩ | ⟨l1,e1⟩ <;> rcases look c' _ h2 with ⟨l2,n2,e2⟩ | ⟨l2,e2⟩
  ·exact h.inj c c' k s s' e1 e2
  ·simp at e2; exact absurd (h.inj c b k s sz e1 (e2.1 ▸ lA)) n1
  ·simp at e1; exact absurd (h.inj c' b k s' sz e2 (e1.1 ▸ lA)) n2
  ·omega

theorem yn {n : Nat} : ∀ {H : Heap},yp n H = true -> ∀ (b : Nat) (cs : List AV),H[b]? = some (some cs) -> oY n cs = true
 | [],_,b,cs,hb => by simp at hb
 | none :: r,h,b,cs,hb => by
   cases b with
   | zero => simp at hb
   | succ b => simp at hb; exact yn (H := r) (by simpa [yp] using h) b cs hb
 | some ds :: r,h,b,cs,hb => by
   simp only [yp,aa] at h;cases b with
   | zero => simp at hb; subst hb; exact h.1
   | succ b => simp at hb; exact yn (H := r) h.2 b cs hb
theorem Fe {φ : dq} {n g : Nat} (h : bN (φ.take n) g) : bN φ g := by
 obtain ⟨b,sz,hb⟩ := h;rw [bB] at hb;split at hb
 ·exact ⟨b,sz,hb⟩
 ·simp at hb
theorem QY {X : Nat -> Prop} {φ : dq} {w : World} {n : Nat} : ∀ a u,Rd X φ w a u -> Rd X (φ.take n) w a u := fun _ _ ⟨h1,h2,h3⟩ => ⟨h1,fun h => h2 (Fe h),h3⟩
theorem b8.take {X : Nat -> Prop} {φ : dq} {w : World} {H : Heap} (h : b8 X φ w H) {n : Nat} (hn : n <= H.length) (c6 : yp n (H.take n) = true) : b8 X (φ.take n) w (H.take n) := by
 refine ⟨by simp [h.len],h.G7,fun b cs hb => ?_,fun b hb => ?_,fun b b' g sz nC h1 h2 => ?_⟩
 ·have hr := yn c6 b cs hb;have bz : b < n := by have := aq hb; simp at this; omega
  rw [aQ bz] at hb;obtain ⟨g,sz,ar,e,h1,h2,h3,h4,h5,h6⟩ := h.live b cs hb;refine ⟨g,sz,ar,e,by rw [aQ bz]; exact h1,h2,h3,h4,h5,fun i c hi => ?_⟩;obtain ⟨u,hu,r⟩ := h6 i c hi;exact ⟨u,hu,(r.take (nO hr i c hi)).mono QY (.refl _)⟩
 ·have bz : b < n := by have := aq hb; simp at this; omega
  rw [aQ bz] at hb ⊢;exact h.dead b hb
 ·rw [bB] at h1 h2;split at h1 <;> split at h2 <;> first | exact h.inj b b' g sz nC h1 h2 | (first | simp at h1 | simp at h2)
theorem eZ.take {φ φ' : dq} {w w' : World} (h : eZ φ w φ' w') : eZ φ w (φ'.take φ.length) w' :=
 ⟨h.os,h.tape,h.output,h.drawn,h.size,fun g hg ho => ⟨(h.keep g hg ho).1,fun hx => (h.keep g hg ho).2 (Fe hx)⟩,
  ⟨by rw [bu]; have := h.SC.len; omega,fun b p hb hp => h.SC.Is b p hb (by rwa [aQ hb] at hp)⟩⟩

/-! Freezing -/
theorem rQ {f : AV -> Option (AV × List Nat)} : ∀ {xs ys : List AV} {bs : List Nat},A7 f xs = some (ys,bs) ->
  ys.length = xs.length /\ ∀ (i : Nat) (x : AV),xs[i]? = some x -> ∃ y b,f x = some (y,b) /\ ys[i]? = some y /\ ∀ c ∈ b,c ∈ bs
 | [],ys,bs,h => by simp [A7] at h; obtain ⟨rfl,rfl⟩ := h; exact ⟨rfl,fun i x hx => by simp at hx⟩
 | x :: r,ys,bs,h => by
   simp only [A7] at h;split at h
   ·rename_i y b Qx bs' h1 h2;simp at h;obtain ⟨rfl,rfl⟩ := h;obtain ⟨hl,hm⟩ := rQ h2;refine ⟨by simp [hl],fun i z hz => ?_⟩;cases i with
    | zero => simp at hz; subst hz; exact ⟨y,b,h1,by simp,fun c hc => by simp [hc]⟩
    | succ i =>
      simp at hz;obtain ⟨y',b',e1,e2,e3⟩ := hm i z hz;exact ⟨y',b',e1,by simpa using e2,fun c hc => by simp [e3 c hc]⟩
   ·cases h
theorem rW (l : List AV) : (el l).cells = l := by
 unfold el;split <;> first | rfl | skip
 rename_i x hx;cases x <;> first | rfl | (exact absurd rfl (hx _))
theorem FZ (k : Nat) : ∀ (n : Nat) (ys : List AV),n * k <= ys.length -> (Oc k n ys).length = n /\ ∀ (i : Nat) (x : AV),(Oc k n ys)[i]? = some x -> x.cells = (ys.drop (i * k)).take k /\ i < n
 | 0,ys,_ => ⟨rfl,fun i x hx => by simp [Oc] at hx⟩
 | n + 1,ys,h => by
   have h' : n * k <= (ys.drop k).length := by rw [dK]; rw [bX] at h; omega
   obtain ⟨hl,hm⟩ := FZ k n (ys.drop k) h';refine ⟨by simp [Oc,hl],fun i x hx => ?_⟩;cases i with
   | zero => simp [Oc] at hx; subst hx; rw [rW]; simp
   | succ i =>
     simp [Oc] at hx;obtain ⟨e1,e2⟩ := hm i x hx;refine ⟨?_,by omega⟩;rw [e1,List.drop_drop];congr 2;rw [bX]; omega
theorem iK {w : World} {g : Nat} {arr : Array Value} {e : TypeId} {fr : Nat × Nat} (h : w.heap[g]? = some (.cells arr e fr)) (o : Nat) : w.cell? ⟨g,o,none⟩ = arr[o]? := cell_of_row w g o arr e fr h

theorem Dw {X : Nat -> Prop} {φ : dq} {w : World} {H : Heap} (h : b8 X φ w H) {R : Addr -> Value -> Prop} (hR : ∀ a u,Rd X φ w a u -> R a u) :
  ∀ (n : Nat) (x y : AV) (v : Value) (bs : List Nat),Bu H n x = some (y,bs) ->
   (∀ b ∈ bs,∀ g sz : Nat,φ[b]? = some (some (g,sz)) -> ∀ o u,w.cell? ⟨g,o,none⟩ = some u -> R ⟨g,o,none⟩ u) -> bR (Rd X φ w) φ x v -> bR R [] y v
 | 0,_,_,_,_,hf,_,_ => by simp [Bu] at hf
 | n + 1,x,y,v,bs,hf,hb,r => by
   have ih := Dw h hR n
   have many : ∀ {cs ys : List AV} {bs' : List Nat} {vs : Array Value},A7 (Bu H n) cs = some (ys,bs') -> (∀ b ∈ bs',b ∈ bs) -> cs.length = vs.size ->
     (∀ (i : Nat) (c : AV) (v : Value),cs[i]? = some c -> vs[i]? = some v -> bR (Rd X φ w) φ c v) ->
     ys.length = vs.size /\ ∀ (i : Nat) (c : AV) (v : Value),ys[i]? = some c -> vs[i]? = some v -> bR R [] c v := by
    intro cs ys bs' vs hm Bn hl hr;obtain ⟨hl',U1⟩ := rQ hm;refine ⟨by omega,fun i c v hc hv => ?_⟩;obtain ⟨x,hx⟩ := bg (l := cs) (i := i) (by have := aq hc; omega);obtain ⟨y,b,e1,e2,e3⟩ := U1 i x hx;rw [e2] at hc;simp at hc;subst hc;exact ih x _ v b e1 (fun b' je => hb b' (Bn _ (e3 b' je))) (hr i x v hx hv)
   cases x with
   | ptr b off =>
     simp only [Bu] at hf;split at hf
     ·rename_i cs dx;split at hf
      ·rename_i ys bs' hm;simp at hf;obtain ⟨rfl,rfl⟩ := hf;obtain ⟨g,sz,arr,e,h1,h2,h3,h4,h5,h6⟩ := h.at dx;obtain ⟨hl',U1⟩ := rQ hm;cases r with
       | ptr _ _ _ a Zh ha =>
         obtain rfl := ha g sz h1;refine .dh _ _ _ (fun j => arr[off + j]?.getD undef) (fun j c hc => ?_) (fun j c hc => ?_)
         ·obtain ⟨x,hx⟩ := bg (l := cs.drop off) (i := j) (by have := aq hc; omega);rw [aS] at hx;obtain ⟨u,hu,_⟩ := h6 _ _ hx;rw [Addr.jd];refine hb b (by simp) g sz h1 _ _ ?_;rw [iK h2,hu]; simp
         ·obtain ⟨x,hx⟩ := bg (l := cs.drop off) (i := j) (by have := aq hc; omega);obtain ⟨y,b',e1,e2,e3⟩ := U1 j x hx;rw [e2] at hc;simp at hc;subst hc;rw [aS] at hx;obtain ⟨u,hu,r⟩ := h6 _ _ hx;refine ih x _ _ b' e1 (fun c hc => hb c (by simp [e3 c hc])) ?_;rw [hu]; exact r
      ·cases hf
     ·cases hf
   | sl k b off len =>
     simp only [Bu] at hf;split at hf
     ·rename_i cs dx;split at hf
      ·rename_i nT;split at hf
       ·rename_i ys bs' hm;simp at hf;obtain ⟨rfl,rfl⟩ := hf;obtain ⟨g,sz,arr,e,h1,h2,h3,h4,h5,h6⟩ := h.at dx;obtain ⟨hl',U1⟩ := rQ hm;have IV : ys.length = len * k := by rw [hl',bu,dK]; omega
        obtain ⟨gl,gm⟩ := FZ k len ys (by omega);cases r with
        | sl _ _ _ _ _ a cap Zh hc ha =>
          obtain ⟨Nr,jW⟩ := ha g sz h1;by_cases FW : 0 < cap
          case neg =>
           have Ng : len = 0 := by omega
           subst Ng;refine .ub _ _ _ _ _ _ (fun _ _ => undef) gl.symm hc (fun x hx => ?_) (fun i j x c hx hc => ?_) (fun i j x c hx hc => ?_)
           all_goals simp [Oc] at hx
          obtain rfl := Nr FW
          have key : ∀ (i j : Nat) (x c : AV),(Oc k len ys)[i]? = some x -> x.cells[j]? = some c -> i * k + j < len * k /\ j < k /\ ys[i * k + j]? = some c := by
           intro i j x c hx hc;obtain ⟨e1,e2⟩ := gm i x hx;rw [e1,bB] at hc;split at hc
           ·rename_i hj;rw [aS] at hc;have := aq hc;exact ⟨by omega,hj,hc⟩
           ·cases hc
          refine .ub _ _ _ _ _ _ (fun i j => arr[off + (i * k + j)]?.getD undef) gl.symm hc (fun x hx => ?_) (fun i j x c hx hc => ?_) (fun i j x c hx hc => ?_)
          ·obtain ⟨i,hi⟩ := bA hx;obtain ⟨e1,e2⟩ := gm i x hi;rw [e1,bu,dK,IV];have : i * k + k <= len * k := by rw [<- Nat.succ_mul]; exact bG _ e2
           omega
          ·obtain ⟨k1,k2,k3⟩ := key i j x c hx hc;obtain ⟨z,hz⟩ := bg (l := (cs.drop off).take (len * k)) (i := i * k + j) (by have := aq k3; omega);rw [aQ k1,aS] at hz;obtain ⟨u,hu,_⟩ := h6 _ _ hz;rw [Addr.jd];refine hb b (by simp) g sz h1 _ _ ?_;rw [iK h2,hu]; simp
          ·obtain ⟨k1,k2,k3⟩ := key i j x c hx hc;obtain ⟨z,hz⟩ := bg (l := (cs.drop off).take (len * k)) (i := i * k + j) (by have := aq k3; omega);obtain ⟨y,b',e1,e2,e3⟩ := U1 _ z hz;rw [e2] at k3;simp at k3;subst k3;rw [aQ k1,aS] at hz;obtain ⟨u,hu,r⟩ := h6 _ _ hz;refine ih z _ _ b' e1 (fun c hc => hb c (by simp [e3 c hc])) ?_;rw [hu]; exact r
       ·cases hf
      ·cases hf
     ·cases hf
   | agg cs =>
     simp only [Bu] at hf;split at hf
     ·rename_i ys bs' hm;simp at hf;obtain ⟨rfl,rfl⟩ := hf;cases r with
      | agg _ _ vs hl hr =>
        obtain ⟨l1,r1⟩ := many hm (fun _ h => h) hl hr;exact .agg _ _ _ l1 r1
     ·cases hf
   | dp cs =>
     simp only [Bu] at hf;split at hf
     ·rename_i ys bs' hm;simp at hf;obtain ⟨rfl,rfl⟩ := hf;cases r with
      | dp _ _ vs hl hr =>
        obtain ⟨l1,r1⟩ := many hm (fun _ h => h) hl hr;exact .dp _ _ _ l1 r1
     ·cases hf
   | func f as cs =>
     simp only [Bu] at hf;split at hf
     ·rename_i ys bs1 zs bs2 hm1 hm2;simp at hf;obtain ⟨rfl,rfl⟩ := hf;cases r with
      | func _ _ _ va _ vb CG CF ha je =>
        obtain ⟨l1,r1⟩ := many hm1 (fun _ h => by simp [h]) CG ha;obtain ⟨l2,r2⟩ := many hm2 (fun _ h => by simp [h]) CF je;exact .func _ _ _ _ _ _ l1 l2 r1 r2
     ·cases hf
   | _ =>
     simp only [Bu,ai,aF] at hf;obtain ⟨rfl,rfl⟩ := hf;exact (r.dB rfl []).mono hR (.refl _)
end Go.Am

/- The check that ties compact operations to the operations of the dump. -/
namespace Go.Am

def Jo : Value -> AV -> Bool
 | .bool a,.bool b => a == b
 | .int k n,.int k' m => decide (k = k') && decide (n = m)
 | .slice none 0 0,.dn => true
 | .pointer none,.eP => true
 | .nilFunc,.eT => true
 | .tuple vs,.undef => vs.isEmpty
 | _,_ => false
def pN : List Value -> List AV -> Bool
 | [],[] => true
 | v :: r,x :: s => Jo v x && pN r s
 | _,_ => false
def chkV : Value -> AV -> Bool
 | .agg cs,.agg ds => pN cs.toList ds
 | v,x => Jo v x
def cZ : Operand -> E -> Bool
 | .tmp t,.t i => decide (t = i)
 | .const v,.k x => chkV v x
 | .func f,.k (.func (.func g) [] []) => decide (f = g)
 | .global g,.g i => decide (g = i)
 | _,_ => false
def jk : List Operand -> List E -> Bool
 | [],[] => true
 | x :: r,y :: s => cZ x y && jk r s
 | _,_ => false
def pQ : Option Operand -> Option E -> Bool
 | none,none => true
 | some x,some y => cZ x y
 | _,_ => false
def pO (place : Nat -> Option (Nat × Nat)) : List (Nat × Operand) -> List (Nat × Nat × E) -> Bool
 | [],[] => true
 | (i,x) :: r,(off,sz,y) :: s => decide (place i = some (off,sz)) && cZ x y && pO place r s
 | _,_ => false

def nZ (P : Program) (t : TypeId) : Option (Option Nat) :=
 match P.underlying t with
 | some (.struct _) | some (.array _ _) => match P.info? t with
   | some i => some (some i.size)
   | none => none
 | some _ => some none
 | none => none
def mV (P : Program) (t : TypeId) (k : Nat) : Bool :=
 match P.info? t with
 | some i => decide (i.size = k)
 | none => false
def oa (P : Program) (t : TypeId) (zs : List AV) : Bool :=
 match P.info? t with
 | some i => match i.zero with
   | some z => pN z.cells.toList zs && bq zs
   | none => false
 | none => false
def jc (P : Program) (t : TypeId) (k : Nat) : Bool :=
 match P.underlying t with
 | some (.slice e) => match P.info? e with
   | some i => decide (i.size = k) && decide (0 < k) && decide (i.bytes <= 1024) && (match i.zero with
     | some z => decide (z.cells.size = k)
     | none => false)
   | none => false
 | _ => false
def iJ (P : Program) (t : TypeId) (zs : List AV) : Bool :=
 match P.underlying t with
 | some (.slice e) => oa P e zs
 | _ => false
def p8 (P : Program) (fs : Array Field) (i : Nat) : Option (Nat × Nat) :=
 match fs[i]? with
 | some f => match P.info? f.type with
   | some j => some (f.offset,j.size)
   | none => none
 | none => none
def Bw (P : Program) : Nat -> List Field -> List Bool -> Bool
 | _,[],[] => true
 | o, f :: r, b :: s => decide (f.offset = o) && decide (f.name ≠ "_") && (match P.underlying f.type with
   | some (.int _) => b
   | some .bool => !b
   | _ => false) && Bw P (o + 1) r s
 | _,_,_ => false
def Gt (P : Program) (t : TypeId) : Et -> Bool
 | .bool => match P.underlying t with
   | some .bool => true
   | _ => false
 | .Pj => match P.underlying t with
   | some (.slice _) => true
   | _ => false
 | .Fo => match P.underlying t with
   | some (.pointer _) => true
   | _ => false
 | .nfn => match P.underlying t with
   | some (.func _ _ _) => true
   | _ => false
 | .str l => match P.underlying t with
   | some (.struct fs) => !P.stoodInHeld t && !P.eqGuardType P.depth t && Bw P 0 fs.toList l
   | _ => false
def isSlice (P : Program) (t : TypeId) : Bool :=
 match P.underlying t with
 | some (.slice _) => true
 | _ => false

def eqOp : BinOp -> Bool -> Bool
 | .eql,ng => !ng
 | .neq,ng => ng
 | _,_ => false
def cN (P : Program) : Op -> Kd -> Bool
 | .move x,.mv y => cZ x y
 | .assign x,.mv y => cZ x y
 | .pick c a b,.pick c' a' b' => cZ c c' && cZ a a' && cZ b b'
 | .alloc t,.new zs => oa P t zs
 | .box _ x,.box y => cZ x y
 | .build t ps,.build zs qs => oa P t zs && (match P.underlying t with
   | some (.struct fs) => (fs.toList.all fun f => (P.info? f.type).isSome) && pO (p8 P fs) ps.toList qs
   | some (.array _ e) => match P.info? e with
     | some i => pO (fun j => some (j * i.size,i.size)) ps.toList qs
     | none => false
   | _ => false)
 | .buildSlice t n ps,.c5 k m zs qs => decide (n = m) && jc P t k && iJ P t zs && decide (n * k <= 16777216) && pO (fun j => some (j * k,k)) ps.toList qs
 | .load t a,.ld ag y => decide (nZ P t = some ag) && cZ a y
 | .store t a v,.st k b y => mV P t k && cZ a b && cZ v y
 | .nilCheck x,.mu y => cZ x y
 | .binOp op _ x y _,.bin op' x' y' => decide (op = op') && cZ x x' && cZ y y'
 | .binOp op t x y _,.eq ng et x' y' => eqOp op ng && Gt P t et && cZ x x' && cZ y y'
 | .unOp op _ x,.un op' y => decide (op = op') && cZ x y
 | .convert s d x,.De k y => (P.underlying s).isSome && (match P.underlying d with
   | some (.int k') => decide (k = k')
   | _ => false) && cZ x y
 | .makeFunc fn as bs,.MK fn' cs ds => decide (fn = fn') && jk as.toList cs && jk bs.toList ds
 | .makeSlice t l c,.KF k zs l' c' => jc P t k && iJ P t zs && cZ l l' && cZ c c'
 | .slice t x lo hi none,.GY k y lo' xg => jc P t k && cZ x y && pQ lo lo' && pQ hi xg
 | .fieldAddr s x f,.cH off y => (match P.underlying s with
   | some (.struct fs) => match fs[f]? with
     | some fd => decide (fd.offset = off) && (match P.info? fd.type with
       | some i => decide (i.size ≠ 0)
       | none => false)
     | none => false
   | _ => false) && cZ x y
 | .field s x f,.Vb off ag y => (match P.underlying s with
   | some (.struct fs) => match fs[f]? with
     | some fd => decide (fd.offset = off) && decide (nZ P fd.type = some ag)
     | none => false
   | _ => false) && cZ x y
 | .indexAddr t x i,.fa k y j => jc P t k && cZ x y && cZ i j
 | .indexAddr t x i,.He n k y j => (match P.underlying t with
   | some (.array n' e) => decide (n = n') && mV P e k
   | _ => false) && cZ x y && cZ i j
 | .index t x i,.ix n k ag y j => (match P.underlying t with
   | some (.array n' e) => decide (n = n') && mV P e k && decide (nZ P e = some ag)
   | _ => false) && cZ x y && cZ i j
 | .index t (.const (.string s)) i,.UP tab j => (match P.underlying t with
   | some .string => true
   | _ => false) && decide (s.data.toList.map (·.toNat) = tab) && cZ i j
 | .call { callee := .builtin .clear,args,argTypes },.Vh k zs x => (match args.toList,argTypes.toList with
   | [x'],[t] => jc P t k && iJ P t zs && cZ x' x
   | _,_ => false)
 | .extract x i,.ext j y => decide (i = j) && cZ x y
 | .call { callee := .value (.func f),args,argTypes := _ },.call g xs => decide (f = g) && jk args.toList xs
 | .call { callee := .value x,args,argTypes := _ },.jm y xs => cZ x y && jk args.toList xs
 | .call { callee := .builtin .len,args,argTypes },.len y => (match args.toList,argTypes.toList with
   | [x],[t] => isSlice P t && cZ x y
   | _,_ => false)
 | .call { callee := .builtin .append,args,argTypes },.app k x y => (match args.toList,argTypes.toList with
   | [x',y'],[t,t'] => decide (t = t') && jc P t k && cZ x' x && cZ y' y
   | _,_ => false)
 | .call { callee := .builtin .min,args,argTypes := _ },.min xs => jk args.toList xs
 | .call { callee := .builtin .max,args,argTypes := _ },.max xs => jk args.toList xs
 | .slice t x none hi none,.Hw n y xg => (match P.underlying t with
   | some (.array n' e) => decide (n = n') && mV P e 1
   | _ => false) && (cZ x y && pQ hi xg)
 | .call { callee := .builtin .copy,args,argTypes },.copy k x y => (match args.toList,argTypes.toList with
   | [x',y'],[t,_] => jc P t k && cZ x' x && cZ y' y
   | _,_ => false)
 | _,.bad => true
 | _,_ => false

def K4 (P : Program) (N : Nat) (ops : Array Oper) (o : Oper) (q : O) : Bool :=
 decide (o.dst = q.dst) && (match q.dst with
  | some d => decide (d < N)
  | none => true) && (match o.guard,q.guard with
  | none,none => true
  | some (j,want),some (g,ack) => decide ((ops[j]?).bind (·.dst) = some g) && decide (want = ack)
  | _,_ => false) && cN P o.op q.kd
def adr (P : Program) (N : Nat) (ops : Array Oper) : List Oper -> List O -> Bool
 | [],[] => true
 | o :: r,q :: s => K4 P N ops o q && adr P N ops r s
 | _,_ => false
def jQ (x y : O) : Bool :=
 (match x.dst with
  | some d => !mem d y.reads && decide (y.dst ≠ some d)
  | none => true) &&
 (match y.dst with
  | some d => !mem d x.reads
  | none => true)
def j7 (i j : Nat) : List (Nat × Nat) -> Bool
 | [] => false
 | p :: r => (decide (p.1 = i) && decide (p.2 = j)) || j7 i j r
def direct (y : Oper) : List Nat := (y.after.toList.filter fun e => Region.binds .any e).map (·.on)
def dedup : List Nat -> List Nat
 | [] => []
 | x :: r => if mem x (dedup r) then dedup r else x :: dedup r
def GM (Ai : List (List Nat)) (y : Oper) : List Nat := dedup (direct y ++ (dedup (direct y)).flatMap fun i => Ai.getD i [])
def abZ (un : List (Nat × Nat)) (i j : Nat) (x : O) (ys : List Nat) (q : O) : Bool := mem i ys || (jQ x q && (x.kd.pure || q.kd.pure || j7 i j un))
def Jp (un : List (Nat × Nat)) (j : Nat) (ys : List Nat) (q : O) : Nat -> List O -> Bool
 | _,[] => true
 | i,x :: r => abZ un i j x ys q && Jp un j ys q (i + 1) r
def NM (un : List (Nat × Nat)) (Ai : List (List Nat)) (seen : List O) : List Oper -> List O -> Bool
 | y :: r,q :: s => ((direct y).all fun i => decide (i < seen.length)) && Jp un seen.length (GM Ai y) q 0 seen && NM un (Ai ++ [GM Ai y]) (seen ++ [q]) r s
 | _,_ => true
def chk (P : Program) (N : Nat) : Code -> C -> Bool
 | .skip,.skip => true
 | .ret,.ret => true
 | .exit i,.exit j => decide (i = j)
 | .region _ ops d,.aH os dr un _ => decide (d = dr) && adr P N ops ops.toList os && (!dr || NM un [] [] ops.toList os)
 | .seq a b,.seq x y => chk P N a x && chk P N b y
 | .cond c a b,.cond c' x y => cZ c c' && chk P N a x && chk P N b y
 | .block i b,.aJ j x => decide (i = j) && chk P N b x
 | .loop b,.loop x => chk P N b x
 | .label _,.skip => true
 | .scope b,.seq .skip x => chk P N b x
 | _,_ => false
def chkR (P : Program) : ResultVar -> Rv -> Bool
 | .tmp t,.t i => decide (t = i)
 | .cell a t,.c i ag => decide (a = i) && decide (nZ P t = some ag)
 | _,_ => false
def CQ (P : Program) : List ResultVar -> List Rv -> Bool
 | [],[] => true
 | x :: r,y :: s => chkR P x y && CQ P r s
 | _,_ => false
def chkF (P : Program) (fn : Func) (q : eB) : Bool :=
 decide (fn.ntmps = q.n) && !(fn.name == "runtime.NumGoroutine") && CQ P fn.results.toList q.res && (match fn.body with
  | some c => chk P q.n c q.body
  | none => false)
structure NY (P : Program) (c : dR) : Prop where
 mixed : P.follows .mixedOrders = true
 fn : ∀ f m q,c.fn f = some (m,q) -> ∃ fn,P.funcs[f]? = some fn /\ chkF P fn q = true
end Go.Am

/- What one operation of the dump does is what the compact operation says: the operations that call nothing. -/
namespace Go.Am

def dH (c : dR) (X : Nat -> Prop) (φ : dq) (w : World) : Prop := ∀ g,bR (Rd X φ w) [] (.dh (c.gl g)) (.pointer (some ⟨g,0,none⟩))
theorem dH.nI {c : dR} {X : Nat -> Prop} {φ φ' : dq} {w w' : World} (h : dH c X φ w) (a : eZ φ w φ' w') : dH c X φ' w' := fun g => (h g).mono a.rd (.refl _)

def Ok (P : Program) (X : Nat -> Prop) (φ : dq) (w : World) (o : Oper) (a : Act) (v : AV) (H' : Heap) : Prop :=
 ∀ (K : Act -> World -> Prop) (Q : Exit -> Act -> World -> Prop),(∀ v' w' φ',bR (Rd X φ' w') φ' v v' -> b8 X φ' w' H' -> eZ φ w φ' w' -> K (a.put o.dst v') w') -> o.wp P a w K Q

section
variable {P : Program} {c : dR} {X : Nat -> Prop} {φ : dq} {w : World} {env : Env} {H : Heap} {a : Act} {o : Oper}

theorem Ok.value {v : AV} {v' : Value} {w' : World} {H' : Heap} {φ' : dq} (hr : (execOp a.eval o).run P w = .ok (.value v') w') (r : bR (Rd X φ' w') φ' v v') (h : b8 X φ' w' H') (k : eZ φ w φ' w') : Ok P X φ w o a v H' := by
 intro K Q hK;unfold Oper.wp;rw [hr];exact hK v' w' φ' r h k
theorem Ok.quiet {v : AV} {v' : Value} (hr : (execOp a.eval o).run P w = .ok (.value v') w) (r : bR (Rd X φ w) φ v v') (h : b8 X φ w H) : Ok P X φ w o a v H := Ok.value hr r h (.refl _ _)
theorem Ok.skip {w' : World} {H' : Heap} {φ' : dq} (hr : (execOp a.eval o).run P w = .ok .skip w') (h : b8 X φ' w' H') (k : eZ φ w φ' w') : Ok P X φ w o a .undef H' := by
 intro K Q hK;unfold Oper.wp;rw [hr];exact hK undef w' φ' (.undef _) h k

theorem Jn {R : Addr -> Value -> Prop} {ψ : dq} {v : Value} {x : AV} (h : Jo v x = true) : bR R ψ x v := by
 unfold Jo at h;split at h
 ·simp at h; subst h; exact .bool _ _
 ·simp at h; obtain ⟨rfl,rfl⟩ := h; exact .int _ _ _
 ·exact .dn _
 ·exact .eP _
 ·exact .eT _
 ·rename_i vs;have : vs = #[] := by simpa using h
  subst this;exact .undef _
 ·cases h
theorem BB {R : Addr -> Value -> Prop} {ψ : dq} : ∀ {vs : List Value} {xs : List AV},pN vs xs = true -> xs.length = vs.length /\ ∀ (i : Nat) (x : AV) (v : Value),xs[i]? = some x -> vs[i]? = some v -> bR R ψ x v
 | [],[],_ => ⟨rfl,fun i x v hx => by simp at hx⟩
 | [],_ :: _,h => by simp [pN] at h
 | _ :: _,[],h => by simp [pN] at h
 | v :: r,x :: s,h => by
   simp only [pN,aa] at h;obtain ⟨hl,hm⟩ := BB (R := R) (ψ := ψ) h.2;refine ⟨by simp [hl],fun i y u hy hu => ?_⟩;cases i with
   | zero => simp at hy hu; subst hy; subst hu; exact Jn h.1
   | succ i => simp at hy hu; exact hm i y u hy hu
theorem ZQ {R : Addr -> Value -> Prop} {ψ : dq} {v : Value} {x : AV} (h : chkV v x = true) : bR R ψ x v := by
 unfold chkV at h;split at h
 ·rename_i cs ds;obtain ⟨hl,hm⟩ := BB (R := R) (ψ := ψ) h;exact .agg _ _ _ (by simpa using hl) fun i x v hx hv => hm i x v hx (by simpa using hv)
 ·exact Jn h
theorem bQ (he : n7 X φ w env a.tmps) (hg : dH c X φ w) {x : Operand} {y : E} (h : cZ x y = true) : bR (Rd X φ w) φ (ev c env y) (a.eval x) := by
 unfold cZ at h;split at h
 ·simp at h; subst h; exact he _
 ·exact ZQ h
 ·simp at h; subst h;exact .func _ _ _ _ _ _ rfl rfl (fun i c v hc => by simp at hc) (fun i c v hc => by simp at hc)
 ·simp at h; subst h; exact (hg _).dB rfl _
 ·cases h

def pY (X : Nat -> Prop) (φ : dq) (w : World) (xs : List AV) (vs : Array Value) : Prop := xs.length = vs.size /\ ∀ (i : Nat) (x : AV) (v : Value),xs[i]? = some x -> vs[i]? = some v -> bR (Rd X φ w) φ x v
theorem nz (he : n7 X φ w env a.tmps) (hg : dH c X φ w) : ∀ {xs : List Operand} {ys : List E},jk xs ys = true ->
  (Dx c env ys).length = xs.length /\ ∀ (i : Nat) (x : AV) (v : Value),(Dx c env ys)[i]? = some x -> (xs.map a.eval)[i]? = some v -> bR (Rd X φ w) φ x v
 | [],[],_ => ⟨rfl,fun i x v hx => by simp [Dx] at hx⟩
 | [],_ :: _,h => by simp [jk] at h
 | _ :: _,[],h => by simp [jk] at h
 | x :: r,y :: s,h => by
   simp only [jk,aa] at h;obtain ⟨hl,hm⟩ := nz he hg h.2;refine ⟨by simp [Dx,hl],fun i z v hz hv => ?_⟩;cases i with
   | zero => simp [Dx] at hz hv; subst hz; subst hv; exact bQ he hg h.1
   | succ i => simp [Dx] at hz; simp at hv; exact hm i z v hz (by simpa using hv)

/-! Places -/
def Lv (X : Nat -> Prop) (φ : dq) (w : World) (cs : List AV) (ad : Addr) : Prop := ∀ (j : Nat) (x : AV),cs[j]? = some x -> ∃ u,w.cell? (ad.add j) = some u /\ bR (Rd X φ w) φ x u
theorem bR.Iy {R : Addr -> Value -> Prop} {x : AV} {v : Value} (h : bR R [] x v) (φ : dq) : bR R φ x v := h.mono (fun _ _ h => h) ⟨Nat.zero_le _,fun b p hb => by simp at hb⟩
theorem Lv.SQ {cs : List AV} {v : Value} (h : bR (Rd X φ w) φ (.dh cs) v) : ∃ ad,v = .pointer (some ad) /\ Lv X φ w cs ad := by
 cases h with
 | dh _ _ ad u hu h => exact ⟨ad,rfl,fun j x hx => ⟨u j,(hu j x hx).2.2,(h j x hx).Iy φ⟩⟩
theorem Lv.Ph (hh : b8 X φ w H) {b off : Nat} {cs : List AV} (hb : aJ H b = some cs) {v : Value} (h : bR (Rd X φ w) φ (.ptr b off) v) :
  ∃ g sz arr e,v = .pointer (some ⟨g,off,none⟩) /\ φ[b]? = some (some (g,sz)) /\ w.heap[g]? = some (.cells arr e (0,0)) /\ arr.size = sz /\ cs.length <= sz /\ ¬ X g /\
   (∀ (i : Nat) (c : AV),cs[i]? = some c -> ∃ u,arr[i]? = some u /\ bR (Rd X φ w) φ c u) /\ Lv X φ w (cs.drop off) ⟨g,off,none⟩ := by
 obtain ⟨g,sz,arr,e,h1,h2,h3,h4,h5,h6⟩ := hh.at hb;cases h with
 | ptr _ _ _ ad Zh hp =>
   obtain rfl := hp g sz h1;refine ⟨g,sz,arr,e,rfl,h1,h2,h3,h4,h5,h6,fun j x hx => ?_⟩;rw [aS] at hx;obtain ⟨u,hu,r⟩ := h6 _ _ hx;exact ⟨u,by rw [Addr.jd,iK h2]; exact hu,r⟩
theorem Lv.values {cs : List AV} {ad : Addr} (h : Lv X φ w cs ad) : ∀ n,n <= cs.length -> ∃ vs : List Value,vs.length = n /\ (∀ (j : Nat) (v : Value),vs[j]? = some v -> w.cell? (ad.add j) = some v) /\
  ∀ (j : Nat) (x : AV) (v : Value),(cs.take n)[j]? = some x -> vs[j]? = some v -> bR (Rd X φ w) φ x v
 | 0,_ => ⟨[],rfl,fun j v hv => by simp at hv,fun j x v hx => by simp at hx⟩
 | n + 1,hn => by
   obtain ⟨vs,hl,h1,h2⟩ := Lv.values h n (by omega);obtain ⟨x,hx⟩ := bg (l := cs) (i := n) (by omega);obtain ⟨u,hu,r⟩ := h n x hx;refine ⟨vs ++ [u],by simp [hl],fun j v hv => ?_,fun j y v hy hv => ?_⟩
   ·by_cases hj : j < vs.length
    ·rw [ak hj] at hv; exact h1 j v hv
    ·have bz := aq hv;simp at bz;have hje : j = n := by omega
     subst hje;rw [aN (by omega)] at hv;simp [hl] at hv;subst hv;exact hu
   ·by_cases hj : j < vs.length
    ·rw [ak hj] at hv;rw [aQ (by omega)] at hy;exact h2 j y v (by rw [aQ (by omega)]; exact hy) hv
    ·have bz := aq hv;simp at bz;have hje : j = n := by omega
     subst hje;rw [aN (by omega)] at hv;simp [hl] at hv;subst hv;rw [aQ (by omega),hx] at hy;simp at hy;subst hy;exact r

theorem uj {t : TypeId} {i : TypeInfo} (h : P.info? t = some i) : (typeInfo t).run P w = .ok i w := by simp [typeInfo,h]
theorem iZ {t : TypeId} {i : TypeInfo} (h : P.info? t = some i) : (sizeOf t).run P w = .ok i.size w := by simp [sizeOf,uj h]
theorem rn {t : TypeId} {i : TypeInfo} {z : Value} (h : P.info? t = some i) (hz : i.zero = some z) : (zeroValue t).run P w = .ok z w := by simp [zeroValue,uj h,hz]

theorem GP {t : TypeId} {k : Nat} (h : nZ P t = some (some k)) : ∃ i,P.info? t = some i /\ i.size = k /\ (isAgg t).run P w = .ok true w := by
 unfold nZ at h;split at h
 ·rename_i fs hu;split at h
  ·rename_i i hi;exact ⟨i,hi,by simpa using h,by simp [isAgg,run_underlying hu]⟩
  ·cases h
 ·rename_i n e hu;split at h
  ·rename_i i hi;exact ⟨i,hi,by simpa using h,by simp [isAgg,run_underlying hu]⟩
  ·cases h
 ·simp at h
 ·cases h
theorem s8 {t : TypeId} (h : nZ P t = some none) : (isAgg t).run P w = .ok false w := by
 unfold nZ at h;split at h
 ·split at h <;> simp at h
 ·split at h <;> simp at h
 ·rename_i d h1 h2 hu;simp only [isAgg,Sem.run_bind,run_underlying hu,Result.andThen_ok];rfl
 ·cases h
theorem KH {t : TypeId} {ag : Option Nat} (ha : nZ P t = some ag) {cs : List AV} {x : AV} (hx : Ay ag cs = some x) {ad : Addr} (hp : Lv X φ w cs ad) :
  ∃ v,(loadVar t ad).run P w = .ok v w /\ bR (Rd X φ w) φ x v := by
 cases ag with
 | some k =>
   obtain ⟨i,hi,hk,Lu⟩ := GP (w := w) ha;simp only [Ay] at hx;split at hx
   ·rename_i hle;simp at hx;subst hx;obtain ⟨vs,hl,h1,h2⟩ := hp.values k hle;have hlc := run_loadCells_list (P := P) w ad vs h1;refine ⟨.agg vs.toArray,?_,.agg _ _ _ (by simp [hl]; omega) fun i c v hc hv => h2 i c v hc (by simpa using hv)⟩;simp only [loadVar,Sem.run_bind,Lu,Result.andThen_ok,if_true,iZ hi,hk];rw [<- hl,hlc];simp
   ·cases hx
 | none =>
   have Lu := s8 (P := P) (w := w) ha;simp only [Ay] at hx;cases cs with
   | nil => simp at hx
   | cons y r =>
     simp at hx;subst hx;obtain ⟨u,hu,r⟩ := hp 0 y rfl;rw [Addr.add_zero'] at hu;refine ⟨u,?_,r⟩;simp only [loadVar,Sem.run_bind,Lu,Result.andThen_ok,bO,if_false,run_load,hu]

theorem SD {t : TypeId} {ag : Option Nat} (ha : nZ P t = some ag) {cs : List AV} {vs : Array Value} (hl : cs.length = vs.size)
  (hr : ∀ (i : Nat) (c : AV) (v : Value),cs[i]? = some c -> vs[i]? = some v -> bR (Rd X φ w) φ c v) {off : Nat} {x : AV} (hx : Ay ag (cs.drop off) = some x) :
  ∃ v,(part t vs off).run P w = .ok v w /\ bR (Rd X φ w) φ x v := by
 cases ag with
 | some k =>
   obtain ⟨i,hi,hk,Lu⟩ := GP (w := w) ha;simp only [Ay] at hx;split at hx
   ·rename_i hle;simp at hx;subst hx;rw [dK] at hle;refine ⟨.agg (vs.extract off (off + k)),?_,.agg _ _ _ ?_ fun j c v hc hv => ?_⟩
    ·simp only [part,Sem.run_bind,Lu,Result.andThen_ok,if_true,iZ hi,hk,Sem.run_pure]
    ·simp only [bu,dK,Array.size_extract]; omega
    ·have hjk : j < k := by have := aq hc; simp only [bu] at this; omega
     rw [aQ hjk,aS] at hc
     have hv' : vs[off + j]? = some v := by
      rw [Array.getElem?_extract] at hv;split at hv
      ·exact hv
      ·cases hv
     exact hr _ c v hc hv'
   ·cases hx
 | none =>
   have Lu := s8 (P := P) (w := w) ha;simp only [Ay,List.head?_drop] at hx;have bz := aq hx;obtain ⟨v,hv⟩ := c7 (l := vs) (i := off) (by omega);exact ⟨v,by simp only [part,Sem.run_bind,Lu,Result.andThen_ok,bO,if_false,hv,Sem.run_pure],hr off x v hx hv⟩

theorem iF {k : IntKind} {n : Int} {v : Value} (h : bR (Rd X φ w) φ (.int k n) v) : v = .int k n := by cases h; rfl
theorem nM {b : Bool} {v : Value} (h : bR (Rd X φ w) φ (.bool b) v) : v = .bool b := by cases h; rfl

theorem aax {op : BinOp} {t : TypeId} {k k' : IntKind} {x y : Int} {r : AV} (h : oM op (.int k x) (.int k' y) = some r) :
  ∃ v,(binOp op t (.int k x) (.int k' y)).run P w = .ok v w /\ ∀ R ψ,bR R ψ r v := by
 cases op <;> simp only [oM,arith] at h
 case shl =>
  split at h
  ·cases h
  ·rename_i hn;simp at h; subst h;exact ⟨_,by simp [binOp,Op.shift,hn],fun _ _ => .int _ _ _⟩
 case shr =>
  split at h
  ·cases h
  ·rename_i hn;simp at h; subst h;exact ⟨_,by simp [binOp,Op.shift,hn],fun _ _ => .int _ _ _⟩
 all_goals
  split at h
  ·rename_i hk;subst hk
   first
    | (simp at h; subst h; first | exact ⟨_,by simp [go_sem],fun _ _ => .int _ _ _⟩ | exact ⟨_,by simp [go_sem],fun _ _ => .bool _ _⟩)
    | (split at h
       ·cases h
       ·rename_i hn;simp at h; subst h;exact ⟨_,by simp [go_sem,hn],fun _ _ => .int _ _ _⟩)
  ·cases h

theorem abw {l : List Bool} {xs ys : List AV} {e : Bool} (h : tO (true :: l) xs ys = some e) :
  ∃ k a r b s e',xs = .int k a :: r /\ ys = .int k b :: s /\ tO l r s = some e' /\ e = (a == b && e') := by
 cases xs with
 | nil => simp [tO] at h
 | cons x r =>
   cases ys with
   | nil => cases x <;> simp [tO] at h
   | cons y s =>
     cases x <;> cases y <;> simp [tO] at h
     rename_i k a k' b;obtain ⟨rfl,h⟩ := h;split at h
     ·rename_i e' he;simp at h;exact ⟨k,a,r,b,s,e',rfl,rfl,he,h.symm⟩
     ·cases h
theorem Zy {l : List Bool} {xs ys : List AV} {e : Bool} (h : tO (false :: l) xs ys = some e) :
  ∃ a r b s e',xs = .bool a :: r /\ ys = .bool b :: s /\ tO l r s = some e' /\ e = (a == b && e') := by
 cases xs with
 | nil => simp [tO] at h
 | cons x r =>
   cases ys with
   | nil => cases x <;> simp [tO] at h
   | cons y s =>
     cases x <;> cases y <;> simp [tO] at h
     rename_i a b;split at h
     ·rename_i e' he;simp at h;exact ⟨a,r,b,s,e',rfl,rfl,he,h.symm⟩
     ·cases h
theorem yN (d : Nat) : ∀ (fs : List Field) (l : List Bool) (off : Nat) (xs ys : List AV) (vx vy : Array Value) (e : Bool),Bw P off fs l = true -> tO l (xs.drop off) (ys.drop off) = some e ->
  xs.length = vx.size -> ys.length = vy.size -> (∀ (i : Nat) (c : AV) (v : Value),xs[i]? = some c -> vx[i]? = some v -> bR (Rd X φ w) φ c v) ->
  (∀ (i : Nat) (c : AV) (v : Value),ys[i]? = some c -> vy[i]? = some v -> bR (Rd X φ w) φ c v) -> (Op.eqFields (d + 1) vx vy fs).run P w = .ok e w
 | [],[],off,xs,ys,vx,vy,e,_,he,_,_,_,_ => by
   generalize xs.drop off = a at he;generalize ys.drop off = b at he;cases a <;> cases b <;> simp [tO] at he
   subst he;rfl
 | [],_ :: _,_,_,_,_,_,_,h,_,_,_,_,_ => by simp [Bw] at h
 | _ :: _,[],_,_,_,_,_,_,h,_,_,_,_,_ => by simp [Bw] at h
 | f :: fs,b :: l,off,xs,ys,vx,vy,e,h,he,C6,C5,hx,hy => by
   simp only [Bw,aa,decide_eq_true_eq] at h;obtain ⟨⟨⟨U0,IU⟩,Lr⟩,YS⟩ := h;have ih := fun e he => yN d fs l (off + 1) xs ys vx vy e YS he C6 C5 hx hy
   have cell : ∀ (zs : List AV) (vz : Array Value) (z : AV) (r : List AV),zs.length = vz.size -> zs.drop off = z :: r -> (∃ v,vz[off]? = some v) /\ zs[off]? = some z /\ zs.drop (off + 1) = r := by
    intro zs vz z r hl hd
    have h0 : zs[off]? = some z := by
     have h := congrArg (·[0]?) hd;simp only [aS,List.getElem?_cons_zero,xn] at h;exact h
    refine ⟨c7 (by have := aq h0; omega),h0,?_⟩;rw [<- List.tail_drop,hd]; rfl
   split at Lr
   ·rename_i k hu;subst Lr;have Lu : nZ P f.type = some none := by simp [nZ,hu]
    have hna := s8 (P := P) (w := w) Lu;obtain ⟨kx,a,r,b',s,e',hdx,hdy,hee,rfl⟩ := abw he;obtain ⟨⟨vx0,hvx⟩,CZ,VJ⟩ := cell xs vx _ _ C6 hdx;obtain ⟨⟨vy0,hvy⟩,hy0,hy1⟩ := cell ys vy _ _ C5 hdy;obtain rfl := iF (hx off _ vx0 CZ hvx);obtain rfl := iF (hy off _ vy0 hy0 hvy);have ih' := ih e' (by rw [VJ,hy1]; exact hee);simp only [Op.eqFields,IU,ne_eq,not_false_eq_true,if_true,part,Sem.run_bind,hna,Result.andThen_ok,bO,if_false,U0,hvx,hvy,Sem.run_pure,run_equalIn_int w d f.type kx k a b' hu];cases hab : (a == b') <;> simp [ih']
   ·rename_i hu;simp only [bD] at Lr;subst Lr;have Lu : nZ P f.type = some none := by simp [nZ,hu]
    have hna := s8 (P := P) (w := w) Lu;obtain ⟨a,r,b',s,e',hdx,hdy,hee,rfl⟩ := Zy he;obtain ⟨⟨vx0,hvx⟩,CZ,VJ⟩ := cell xs vx _ _ C6 hdx;obtain ⟨⟨vy0,hvy⟩,hy0,hy1⟩ := cell ys vy _ _ C5 hdy;obtain rfl := nM (hx off _ vx0 CZ hvx);obtain rfl := nM (hy off _ vy0 hy0 hvy);have ih' := ih e' (by rw [VJ,hy1]; exact hee);simp only [Op.eqFields,IU,ne_eq,not_false_eq_true,if_true,part,Sem.run_bind,hna,Result.andThen_ok,bO,if_false,U0,hvx,hvy,Sem.run_pure,run_equalIn_bool w d f.type a b' hu];cases hab : (a == b') <;> simp [ih']
   ·cases Lr
end
end Go.Am

/- What one operation of the dump does, continued: memory. -/
set_option linter.unusedSimpArgs false
namespace Go.Am
section
variable {P : Program} {c : dR} {X : Nat -> Prop} {φ : dq} {w : World} {env : Env} {H : Heap} {a : Act} {o : Oper}

def Cs (X : Nat -> Prop) (φ : dq) (w : World) (cs : List AV) (vs : List Value) : Prop := cs.length = vs.length /\ ∀ (i : Nat) (c : AV) (v : Value),cs[i]? = some c -> vs[i]? = some v -> bR (Rd X φ w) φ c v
theorem Cs.get {cs : List AV} {vs : List Value} (h : Cs X φ w cs vs) {i : Nat} {c : AV} (hc : cs[i]? = some c) : ∃ u,vs[i]? = some u /\ bR (Rd X φ w) φ c u := by
 obtain ⟨u,hu⟩ := bg (l := vs) (i := i) (h.1 ▸ aq hc);exact ⟨u,hu,h.2 i c u hc hu⟩
theorem Cs.append {cs ds : List AV} {vs us : List Value} (h : Cs X φ w cs vs) (k : Cs X φ w ds us) : Cs X φ w (cs ++ ds) (vs ++ us) := by
 refine ⟨by simp [h.1,k.1],fun i c v hc hv => ?_⟩;by_cases hi : i < cs.length
 ·rw [ak hi] at hc;rw [ak (h.1 ▸ hi)] at hv;exact h.2 i c v hc hv
 ·rw [aN (by omega)] at hc;rw [aN (by have := h.1; omega)] at hv;rw [h.1] at hc;exact k.2 _ c v hc hv
theorem Cs.take {cs : List AV} {vs : List Value} (h : Cs X φ w cs vs) (n : Nat) : Cs X φ w (cs.take n) (vs.take n) := by
 refine ⟨by simp [h.1],fun i c v hc hv => ?_⟩;have hi : i < n := by have := aq hc; simp at this; omega
 rw [aQ hi] at hc hv;exact h.2 i c v hc hv
theorem Cs.drop {cs : List AV} {vs : List Value} (h : Cs X φ w cs vs) (n : Nat) : Cs X φ w (cs.drop n) (vs.drop n) := by
 refine ⟨by simp [h.1],fun i c v hc hv => ?_⟩;rw [aS] at hc hv;exact h.2 _ c v hc hv
theorem Cs.jK {cs ds : List AV} {vs us : List Value} (h : Cs X φ w cs vs) (k : Cs X φ w ds us) (off : Nat) : Cs X φ w (jK cs off ds) (vs.take off ++ us ++ vs.drop (off + us.length)) := by
 unfold Am.jK;rw [<- k.1];exact ((h.take off).append k).append (h.drop _)
theorem bR.cs {x : AV} {v : Value} (h : bR (Rd X φ w) φ x v) (hs : bq x.cells = true) : Cs X φ w x.cells v.cells.toList /\ ∀ u ∈ v.cells.toList,u.oneCell' = true := by
 obtain ⟨hl,hm⟩ := h.cells hs;refine ⟨⟨by simpa using hl,fun i c u hc hu => ?_⟩,fun u hu => ?_⟩
 ·obtain ⟨u',h1,h2,_⟩ := hm i c hc;simp at hu;rw [h1] at hu;simp at hu;subst hu;exact h2
 ·obtain ⟨i,hi⟩ := bA hu;obtain ⟨c,hc⟩ := bg (l := x.cells) (i := i) (by have := aq hi; simp at this; omega);obtain ⟨u',h1,_,h3⟩ := hm i c hc;simp at hi;rw [h1] at hi;simp at hi;subst hi;exact h3
theorem Cs.sQ {cs : List AV} {vs : List Value} (h : Cs X φ w cs vs) (hl : bq cs = true) : ∀ u ∈ vs,u.oneCell' = true := by
 intro u hu;obtain ⟨i,hi⟩ := bA hu;obtain ⟨c,hc⟩ := bg (l := cs) (i := i) (by have := aq hi; have := h.1; omega);exact (h.2 i c u hc hi).sQ (vP hl i c hc)
theorem rb {t : TypeId} {zs : List AV} (h : oa P t zs = true) : ∃ i z,P.info? t = some i /\ i.zero = some z /\ Cs X φ w zs z.cells.toList /\ bq zs = true := by
 unfold oa at h;split at h
 ·rename_i i hi;split at h
  ·rename_i z hz;simp only [aa] at h;exact ⟨i,z,hi,hz,BB h.1,h.2⟩
  ·cases h
 ·cases h
theorem jj {t : TypeId} {k : Nat} (h : jc P t k = true) : ∃ e i z,P.underlying t = some (.slice e) /\ P.info? e = some i /\ i.size = k /\ 0 < k /\ i.bytes <= 1024 /\ i.zero = some z /\ z.cells.size = k := by
 unfold jc at h;split at h
 ·rename_i e hu;split at h
  ·rename_i i hi;simp only [aa,decide_eq_true_eq] at h;obtain ⟨⟨⟨h1,h2⟩,h3⟩,h4⟩ := h;split at h4
   ·rename_i z hz;exact ⟨e,i,z,hu,hi,h1,h2,h3,hz,by simpa using h4⟩
   ·cases h4
  ·cases h
 ·cases h

theorem r9 (hh : b8 X φ w H) {arr : Array Value} {e : TypeId} {cs : List AV} {w1 : World} (hw : w1.heap = w.heap) (ho : w1.os = w.os) (ht : w1.tape = w.tape) (hp : w1.output = w.output)
  (hl : cs.length <= arr.size) (hc : ∀ (i : Nat) (c : AV),cs[i]? = some c -> ∃ u,arr[i]? = some u /\ bR (Rd X φ w) φ c u) (hd : w.drawn <= w1.drawn := by first | exact ba _ | exact Nat.le_succ _) :
  b8 X (φ ++ [some (w.heap.size,arr.size)]) (w1.alloc (.cells arr e)) (H ++ [some cs]) /\ eZ φ w (φ ++ [some (w.heap.size,arr.size)]) (w1.alloc (.cells arr e)) :=
 hh.alloc (w' := w1.alloc (.cells arr e)) (e := e) (by simp [World.alloc,hw]) ho ht hp hl hc hd
theorem Cs.at {cs : List AV} {vs : List Value} {arr : Array Value} (h : Cs X φ w cs vs) (hv : ∀ (i : Nat) (u : Value),vs[i]? = some u -> arr[i]? = some u) : ∀ (i : Nat) (c : AV),cs[i]? = some c -> ∃ u,arr[i]? = some u /\ bR (Rd X φ w) φ c u := by
 intro i c hc;obtain ⟨u,hu,r⟩ := h.get hc;exact ⟨u,hv i u hu,r⟩
theorem SY {R : Addr -> Value -> Prop} {n g sz : Nat} (hn : φ.length = n) : bR R (φ ++ [some (g,sz)]) (.ptr n 0) (.pointer (some ⟨g,0,none⟩)) := by
 refine .ptr _ _ _ _ (by simp [hn]) fun g' nC h => ?_;subst hn;simp at h;rw [h.1]
theorem KD {R : Addr -> Value -> Prop} {n g sz k len cap : Nat} (hn : φ.length = n) (hc : len <= cap) (hs : cap * k <= sz) : bR R (φ ++ [some (g,sz)]) (.sl k n 0 len) (.slice (some ⟨g,0,none⟩) len cap) := by
 refine .sl _ _ _ _ _ _ _ (by simp [hn]) hc fun g' nC h => ?_;subst hn;simp at h;obtain ⟨rfl,rfl⟩ := h;exact ⟨fun _ => rfl,by omega⟩
theorem SX {R : Addr -> Value -> Prop} {ψ : dq} {n g sz k len cap : Nat} (hn : ψ.length = n) (hc : len <= cap) (hs : cap * k <= sz) : bR R (ψ ++ [some (g,sz)]) (.sl k n 0 len) (.slice (some ⟨g,0,none⟩) len cap) := KD hn hc hs

theorem Pd {t : TypeId} {zs : List AV} (eK : o.op = .alloc t) (hh : b8 X φ w H) (hz : oa P t zs = true) : Ok P X φ w o a (.ptr H.length 0) (H ++ [some zs]) := by
 obtain ⟨i,z,hi,hz,dx,_⟩ := rb (X := X) (φ := φ) (w := w) hz;obtain ⟨h1,h2⟩ := r9 hh (w1 := w) (arr := z.cells) (e := t) rfl rfl rfl rfl (by rw [dx.1]; simp) (dx.at (by simp));refine Ok.value ?_ (SY hh.len) h1 h2;simp [execOp,eK,Instr.alloc,rn hi hz,newVar,newRow]
theorem ae2 {t : TypeId} {x : Operand} {v : AV} (eK : o.op = .box t x) (hh : b8 X φ w H) (r : bR (Rd X φ w) φ v (a.eval x)) (hs : bq v.cells = true) :
  Ok P X φ w o a (.ptr H.length 0) (H ++ [some v.cells]) := by
 obtain ⟨dx,_⟩ := r.cs hs;obtain ⟨h1,h2⟩ := r9 hh (w1 := w) (arr := (a.eval x).cells) (e := t) rfl rfl rfl rfl (by rw [dx.1]; simp) (dx.at (by simp));refine Ok.value ?_ (SY hh.len) h1 h2;simp [execOp,eK,Instr.box,newVar,newRow]

theorem agz {t : TypeId} {x : Operand} {y : E} {ag : Option Nat} {v : AV} {H' : Heap} {fl : Fp} {call : Nat -> List AV -> Heap -> Option (AV × Heap)} (eK : o.op = .load t x) (hh : b8 X φ w H) (r : bR (Rd X φ w) φ (ev c env y) (a.eval x))
  (ha : nZ P t = some ag) (hs : fc c call env H (.ld ag y) = some (v,H',fl)) : Ok P X φ w o a v H' := by
 have go : ∀ {cs : List AV} {ad : Addr},a.eval x = .pointer (some ad) -> Lv X φ w cs ad -> Ay ag cs = some v -> Ok P X φ w o a v H := by
  intro cs ad hx hp hv;obtain ⟨u,h1,h2⟩ := KH ha hv hp;exact Ok.quiet (by simp [execOp,eK,hx,Instr.loadAt,Instr.sureAddr,h1]) h2 hh
 simp only [fc] at hs;split at hs
 ·rename_i cs hc;split at hs
  ·rename_i u hu;simp at hs;obtain ⟨rfl,rfl,rfl⟩ := hs;rw [hc] at r;obtain ⟨ad,h1,h2⟩ := Lv.SQ r;exact go h1 h2 hu
  ·cases hs
 ·rename_i b off hc;split at hs
  ·rename_i cs hb;split at hs
   ·rename_i u hu;simp at hs;obtain ⟨rfl,rfl,rfl⟩ := hs;rw [hc] at r;obtain ⟨g,sz,arr,e,h1,_,_,_,_,_,_,h2⟩ := Lv.Ph hh hb r;exact go h1 h2 hu
   ·cases hs
  ·cases hs
 ·cases hs

theorem fk {cs vs : List AV} {off : Nat} (h : off + vs.length <= cs.length) : (jK cs off vs).length = cs.length := by
 unfold jK;simp only [cM,bu,dK];omega
theorem aas (l us : List Value) (off n i : Nat) (h : off + us.length <= n) (hn : n <= l.length) (hi : i < n) :
  (l.take off ++ us ++ l.drop (off + us.length))[i]? = ((l.take n).take off ++ us ++ (l.take n).drop (off + us.length))[i]? := by
 have e1 : (l.take off).length = off := by simp; omega
 have e2 : ((l.take n).take off).length = off := by simp; omega
 by_cases h1 : i < off
 ·rw [dI,dI,ak (by omega),ak (by omega),aQ h1,aQ h1,aQ hi]
 ·by_cases h2 : i < off + us.length
  ·have f1 : i < (l.take off ++ us).length := by rw [cM,e1]; omega
   have f2 : i < ((l.take n).take off ++ us).length := by rw [cM,e2]; omega
   rw [ak f1,ak f2,aN (by omega),aN (by omega),e1,e2]
  ·have f1 : (l.take off ++ us).length = off + us.length := by rw [cM,e1]
   have f2 : ((l.take n).take off ++ us).length = off + us.length := by rw [cM,e2]
   rw [aN (by omega),aN (by omega),f1,f2,aS,aS,aQ (by omega)]
theorem DC (hh : b8 X φ w H) {b off : Nat} {cs : List AV} (hb : aJ H b = some cs) {v : Value} (r : bR (Rd X φ w) φ (.ptr b off) v) {ds : List AV} {us : List Value} (dx : Cs X φ w ds us)
  (h1 : ∀ u ∈ us,u.oneCell' = true) (nT : off + ds.length <= cs.length) :
  ∃ g w',v = .pointer (some ⟨g,off,none⟩) /\ (storeCells ⟨g,off,none⟩ us).run P w = .ok () w' /\ b8 X φ w' (H.set b (some (jK cs off ds))) /\ eZ φ w φ w' := by
 obtain ⟨g,sz,arr,e,rfl,lA,hg,oS,hle,hX,hm,_⟩ := Lv.Ph hh hb r;have sa := run_storeCells_at P g off e us 0 arr w hg (by rw [<- dx.1]; omega) h1;simp only [xn] at sa
 have zU : (arr.toList.take off ++ us ++ arr.toList.drop (off + us.length)).toArray.size = arr.size := by
  simp only [q9,cM,bu,dK,pf,<- dx.1]; omega
 have key : ∀ (i : Nat) (x : AV),(jK cs off ds)[i]? = some x -> ∃ u,(arr.toList.take off ++ us ++ arr.toList.drop (off + us.length)).toArray[i]? = some u /\ bR (Rd X φ w) φ x u := by
  intro i x hx
  have Da : Cs X φ w (cs.take cs.length) (arr.toList.take cs.length) := by
   refine ⟨by simp; omega,fun i c u hc hu => ?_⟩;have hi : i < cs.length := by have := aq hc; simp at this; omega
   rw [aQ hi] at hc hu;obtain ⟨u',h1,h2⟩ := hm i c hc;simp at hu;rw [h1] at hu;simp at hu;subst hu;exact h2
  rw [List.take_length] at Da;have hov := Da.jK dx off;obtain ⟨u,hu,r⟩ := hov.get hx;refine ⟨u,?_,r⟩;have hi : i < cs.length := by have := aq hx; rw [fk nT] at this; exact this
  have hul := dx.1;simp only [vW];rw [<- hu];exact aas arr.toList us off cs.length i (by omega) (by simp; omega) hi
 obtain ⟨k1,k2⟩ := hh.store (cs' := jK cs off ds) (arr' := (arr.toList.take off ++ us ++ arr.toList.drop (off + us.length)).toArray) lA hg oS zU rfl hX
  (by rw [fk nT,zU]; omega) key
 exact ⟨g,_,rfl,sa,k1,k2⟩
theorem XX {t : TypeId} {x y : Operand} {b off k : Nat} {cs : List AV} {v : AV} (eK : o.op = .store t x y) (hh : b8 X φ w H) (hb : aJ H b = some cs) (hk : mV P t k = true)
  (rx : bR (Rd X φ w) φ (.ptr b off) (a.eval x)) (ry : bR (Rd X φ w) φ v (a.eval y)) (hl : v.cells.length = k) (nT : off + k <= cs.length) (hs : bq v.cells = true) :
  Ok P X φ w o a .undef (H.set b (some (jK cs off v.cells))) := by
 obtain ⟨dx,h1⟩ := ry.cs hs;obtain ⟨g,w',hx,sa,k1,k2⟩ := DC (P := P) hh hb rx dx h1 (by omega);refine Ok.skip ?_ k1 k2;unfold mV at hk;split at hk
 ·rename_i i hi;simp at hk;have oS : (a.eval y).cells.size = i.size := by have := dx.1; simp at this; omega
  simp [execOp,eK,hx,Instr.storeAt,Instr.sureAddr,storeVar,iZ hi,oS,sa]
 ·cases hk

/-! Composite literals -/
theorem Ga (off : Nat) : ∀ (l : List Value) (n : Nat) (arr : Array Value),
  ((l.zipIdx n).foldl (fun cs (p : Value × Nat) => cs.setIfInBounds (off + p.2) p.1) arr).size = arr.size /\
  (off + n + l.length <= arr.size -> ((l.zipIdx n).foldl (fun cs (p : Value × Nat) => cs.setIfInBounds (off + p.2) p.1) arr).toList = arr.toList.take (off + n) ++ l ++ arr.toList.drop (off + n + l.length))
 | [],n,arr => by simp
 | v :: r,n,arr => by
   simp only [List.zipIdx_cons,List.foldl_cons];obtain ⟨h1,h2⟩ := Ga off r (n + 1) (arr.setIfInBounds (off + n) v);refine ⟨by rw [h1]; simp,fun nT => ?_⟩;simp only [b7] at nT;rw [h2 (by simp; omega)];apply dA;intro i;simp only [Array.toList_setIfInBounds,b7];by_cases h0 : i < off + n
   ·rw [ak (by simp; omega),ak (by simp; omega),ak (by simp; omega),ak (by simp; omega),
     aQ (by omega),aQ h0,c9 (by omega)]
   ·by_cases h3 : i = off + n
    ·subst h3
     rw [ak (by simp; omega),ak (by simp; omega),ak (by simp; omega),aN (by simp; omega),
      aQ (by omega),List.getElem?_set_self (by simp; omega)]
     have e1 : (arr.toList.take (off + n)).length = off + n := by simp; omega
     rw [e1]; simp
    ·by_cases h4 : i < off + n + (r.length + 1)
     ·rw [ak (by simp; omega),aN (by simp; omega),ak (by simp; omega),aN (by simp; omega)];have e1 : (arr.toList.take (off + n)).length = off + n := by simp; omega
      have e2 : ((arr.toList.set (off + n) v).take (off + (n + 1))).length = off + n + 1 := by simp; omega
      rw [e1,e2,show i - (off + n) = (i - (off + n + 1)) + 1 by omega,mK]
     ·rw [aN (by simp; omega),aN (by simp; omega),aS,aS,c9 (by simp; omega)];congr 1;simp only [cM,bu,List.length_set,pf,b7];omega
theorem Vc (v : Value) (off : Nat) (arr : Array Value) (h : off + v.cells.size <= arr.size) :
  (v.cells.zipIdx.foldl (fun cs (p : Value × Nat) => cs.setIfInBounds (off + p.2) p.1) arr).toList = arr.toList.take off ++ v.cells.toList ++ arr.toList.drop (off + v.cells.toList.length) := by
 have h2 := (Ga off v.cells.toList 0 arr).2 (by simpa using h);rw [<- Array.foldl_toList,Array.toList_zipIdx];simpa using h2
theorem qE (he : n7 X φ w env a.tmps) (hg : dH c X φ w) {place : Nat -> Option (Nat × Nat)} : ∀ {ps : List (Nat × Operand)} {qs : List (Nat × Nat × E)} {zs cs : List AV} {arr : Array Value},
  pO place ps qs = true -> Cs X φ w zs arr.toList -> nW c env zs qs = some cs -> ∃ arr',Instr.fill place arr (ps.map fun p => (p.1,a.eval p.2)) = some arr' /\ Cs X φ w cs arr'.toList
 | [],[],zs,cs,arr,_,hz,hf => by simp [nW] at hf; subst hf; exact ⟨arr,rfl,hz⟩
 | [],_ :: _,_,_,_,h,_,_ => by simp [pO] at h
 | _ :: _,[],_,_,_,h,_,_ => by simp [pO] at h
 | (i,x) :: r,(off,sz,y) :: s,zs,cs,arr,h,hz,hf => by
   simp only [pO,aa,decide_eq_true_eq] at h;obtain ⟨⟨hp,hx⟩,YS⟩ := h;simp only [nW] at hf;split at hf
   ·rename_i hc;obtain ⟨h1,h2,h3⟩ := hc;obtain ⟨dx,_⟩ := (bQ he hg hx).cs h3;have oS : (a.eval x).cells.size = sz := by have := dx.1; simp at this; omega
    have Hf : zs.length = arr.size := by simpa using hz.1
    have agD := Vc (a.eval x) off arr (by omega)
    have Nj : Cs X φ w (jK zs off (ev c env y).cells) ((a.eval x).cells.zipIdx.foldl (fun cs (p : Value × Nat) => cs.setIfInBounds (off + p.2) p.1) arr).toList := by
     rw [agD]; exact hz.jK dx off
    obtain ⟨arr',e1,e2⟩ := qE he hg YS Nj hf;refine ⟨arr',?_,e2⟩;simp only [dN,Instr.fill,hp];rw [if_neg (by simp [oS]; omega)];exact e1
   ·cases hf

theorem run_places (fs : List Field) (h : ∀ f ∈ fs,(P.info? f.type).isSome = true) :
  (fs.mapM (m := Sem) fun f => do pure (f.offset,<- sizeOf f.type)).run P w = .ok (fs.map fun f => (f.offset,((P.info? f.type).map (·.size)).getD 0)) w := by
 induction fs with
 | nil => rfl
 | cons f r ih =>
   obtain ⟨i,hi⟩ := aU.1 (h f (by simp));have ih' := ih fun g hg => h g (by simp [hg]);simp only [List.mapM_cons,Sem.run_bind,iZ hi,Result.andThen_ok,Sem.run_pure,ih',dN,hi,Option.map_some,Option.getD_some]
theorem X6 {t : TypeId} {ps : Array (Nat × Operand)} {qs : List (Nat × Nat × E)} {zs cs : List AV} (eK : o.op = .build t ps) (hh : b8 X φ w H) (he : n7 X φ w env a.tmps) (hg : dH c X φ w)
  (hz : oa P t zs = true) (hu : (match P.underlying t with
  | some (.struct fs) => (fs.toList.all fun f => (P.info? f.type).isSome) && pO (p8 P fs) ps.toList qs
  | some (.array _ e) => match P.info? e with
    | some i => pO (fun j => some (j * i.size,i.size)) ps.toList qs
    | none => false
  | _ => false) = true) (hf : nW c env zs qs = some cs) : Ok P X φ w o a (.agg cs) H := by
 obtain ⟨i,z,hi,hz,dx,_⟩ := rb (X := X) (φ := φ) (w := w) hz;split at hu
 ·rename_i fs hut;simp only [aa,List.all_eq_true] at hu;obtain ⟨arr',e1,e2⟩ := qE he hg hu.2 dx hf;refine Ok.quiet (v' := .agg arr') ?_ (.agg _ _ _ (by simpa using e2.1) fun i c v hc hv => e2.2 i c v hc (by simpa using hv)) hh;have sd := run_places (P := P) (w := w) fs.toList hu.1
  have hpl2 : (fs.mapM (m := Sem) fun f => do pure (f.offset,<- sizeOf f.type)).run P w = .ok (fs.toList.map fun f => (f.offset,((P.info? f.type).map (·.size)).getD 0)).toArray w := by
   rw [<- wS (xs := fs),List.mapM_toArray];simp only [Sem.run_map,sd,Result.andThen_ok,wS]
  have afk : (fun j => ((fs.toList.map fun f => (f.offset,((P.info? f.type).map (·.size)).getD 0)).toArray)[j]?) = p8 P fs := by
   funext j;simp only [vW,cU,jS,p8];cases hfj : fs[j]? with
   | none => rfl
   | some f =>
     obtain ⟨i,hi⟩ := aU.1 (hu.1 f (Oj.2 (Array.mem_of_getElem? hfj)));simp [hi]
  simp only [execOp,eK,Instr.build,Sem.run_bind,rn hi hz,Result.andThen_ok,run_underlying hut,hpl2,afk];have : (CW (fun x => (x.1,a.eval x.2)) ps).toList = ps.toList.map fun p => (p.1,a.eval p.2) := by simp
  simp only [this,e1,Sem.run_pure,Result.andThen_ok]
 ·rename_i n e hut;split at hu
  ·rename_i ie hie;obtain ⟨arr',e1,e2⟩ := qE he hg hu dx hf;refine Ok.quiet (v' := .agg arr') ?_ (.agg _ _ _ (by simpa using e2.1) fun i c v hc hv => e2.2 i c v hc (by simpa using hv)) hh;have : (CW (fun x => (x.1,a.eval x.2)) ps).toList = ps.toList.map fun p => (p.1,a.eval p.2) := by simp
   simp only [execOp,eK,Instr.build,Sem.run_bind,rn hi hz,Result.andThen_ok,run_underlying hut,iZ hie,this,e1,Sem.run_pure]
  ·cases hu
 ·cases hu

theorem QW (zs : List AV) : ∀ (n i : Nat),i < n * zs.length -> (rep zs n)[i]? = zs[i % zs.length]?
 | 0,i,h => by simp at h
 | n + 1,i,h => by
   rw [rep];by_cases hi : i < zs.length
   ·rw [ak hi,Nat.mod_eq_of_lt hi]
   ·rw [aN (by omega),QW zs n _ (by rw [bX] at h; omega),<- Nat.mod_eq_sub_mod (by omega)]
theorem kV (zs : List AV) : ∀ n,(rep zs n).length = n * zs.length
 | 0 => by simp [rep]
 | n + 1 => by rw [rep,cM,kV zs n,bX]; omega
theorem WJ {zs : List AV} (h : bq zs = true) : ∀ n,bq (rep zs n) = true := by
 have app : ∀ {a b : List AV},bq a = true -> bq b = true -> bq (a ++ b) = true := by
  intro a
  induction a with
  | nil => intro b _ hb; exact hb
  | cons x r ih => intro b ha hb; simp only [bq,aa,List.cons_append] at *; exact ⟨ha.1,ih ha.2 hb⟩
 intro n
 induction n with
 | zero => rfl
 | succ n ih => exact app h ih
theorem ON {zs : List AV} {z : Array Value} (h : Cs X φ w zs z.toList) {n m : Nat} (hm : n * z.size <= m) {arr : Array Value} (hz : arr.size = m) (ha : ∀ i,i < m -> arr[i]? = some (z[i % z.size]!)) :
  ∀ (i : Nat) (c : AV),(rep zs n)[i]? = some c -> ∃ u,arr[i]? = some u /\ bR (Rd X φ w) φ c u := by
 intro i c hc;have Hf : zs.length = z.size := by simpa using h.1
 have hi : i < n * zs.length := by have := aq hc; rwa [kV] at this
 rw [QW zs n i hi] at hc;rw [Hf] at hc hi;refine ⟨_,ha i (by omega),?_⟩;obtain ⟨u,hu,r⟩ := h.get hc;simp at hu;rw [getElem!_def,hu];exact r
theorem Uy {t : TypeId} {n k : Nat} {ps : Array (Nat × Operand)} {qs : List (Nat × Nat × E)} {zs cs : List AV} (eK : o.op = .buildSlice t n ps) (hh : b8 X φ w H) (he : n7 X φ w env a.tmps) (hg : dH c X φ w)
  (hk : jc P t k = true) (hz : iJ P t zs = true) (hn : n * k <= 16777216) (hq : pO (fun j => some (j * k,k)) ps.toList qs = true) (hf : nW c env (rep zs n) qs = some cs) :
  Ok P X φ w o a (.sl k H.length 0 n) (H ++ [some cs]) := by
 obtain ⟨e,i,z,hu,hi,wF,hk0,hby,Ni,N7⟩ := jj hk;simp only [iJ,hu] at hz;obtain ⟨i',z',xg,yG,dx,_⟩ := rb (X := X) (φ := φ) (w := w) hz;rw [hi] at xg;simp at xg;subst xg;rw [Ni] at yG;simp at yG;subst yG;have Hf : zs.length = k := by have := dx.1; simp at this; omega
 have Da : Cs X φ w (rep zs n) ((wT (n * k)).map (z.cells[· % z.cells.size]!)).toList := by
  refine ⟨by rw [kV,Hf]; simp,fun j c v hc hv => ?_⟩;obtain ⟨u,h1,h2⟩ := ON dx (n := n) (m := n * k) (by rw [N7]; omega) (arr := (wT (n * k)).map (z.cells[· % z.cells.size]!)) (by simp) (fun i hi => by simp [hi]) j c hc;rw [jS,h1] at hv;simp at hv;subst hv;exact h2
 obtain ⟨arr',e1,e2⟩ := qE he hg hq Da hf
 have oS : arr'.size = n * k := by
  have fl : ∀ {ps : List (Nat × Nat × E)} {zs cs : List AV},nW c env zs ps = some cs -> cs.length = zs.length := by
   intro ps
   induction ps with
   | nil => intro zs cs h; simp [nW] at h; rw [h]
   | cons p r ih =>
     intro zs cs h;obtain ⟨o,s,y⟩ := p;simp only [nW] at h;split at h
     ·rename_i hc; rw [ih h,fk (by omega)]
     ·cases h
  have h1 := fl hf;have h2 := e2.1;simp only [pf] at h2;rw [<- h2,h1,kV,Hf]
 obtain ⟨h1,h2⟩ := r9 hh (w1 := w) (arr := arr') (e := e) rfl rfl rfl rfl (by rw [e2.1]; simp) (e2.at (by simp));refine Ok.value ?_ (KD hh.len (ba n) (by omega)) h1 h2;have tX : (CW (fun x => (x.1,a.eval x.2)) ps).toList = ps.toList.map fun p => (p.1,a.eval p.2) := by simp
 have N9 : ¬ (n * k > 2 ^ 24) := by have : (2:Nat) ^ 24 = 16777216 := by decide
                                    omega
 have hzero : (if n * i.size = 0 then (pure #[] : Sem (Array Value)) else do pure (<- zeroValue e).cells).run P w = .ok (if n * k = 0 then #[] else z.cells) w := by
  rw [wF];split <;> simp [rn hi Ni]
 have afm : (wT (n * k)).map ((if n * k = 0 then #[] else z.cells)[· % (if n * k = 0 then #[] else z.cells).size]!) = (wT (n * k)).map (z.cells[· % z.cells.size]!) := by
  by_cases h0 : n * k = 0
  ·simp [h0]
  ·simp [h0]
 simp only [execOp,eK,Instr.buildSlice,Sem.run_bind,run_underlying hu,Result.andThen_ok,iZ hi,wF,Sem.run_ite,N9,if_false];rw [wF] at hzero;simp only [Sem.run_ite,Sem.run_bind,Sem.run_pure,rn hi Ni,Result.andThen_ok] at hzero ⊢;have e1' := e1;rw [<- afm,<- tX] at e1';split
 ·rename_i h0;simp only [h0,if_true] at e1' ⊢;simp only [Result.andThen_ok,Array.range_zero',Array.map_empty] at e1' ⊢;rw [show (Instr.fill (fun i => some (i * k,k)) #[] (CW (fun x => (x.1,a.eval x.2)) ps).toList) = some arr' from e1'];simp [newRow]
 ·rename_i h0;simp only [h0,if_false,Result.andThen_ok] at e1' ⊢;rw [show (Instr.fill (fun i => some (i * k,k)) ((wT (n * k)).map (z.cells[· % z.cells.size]!)) (CW (fun x => (x.1,a.eval x.2)) ps).toList) = some arr' from e1'];simp [newRow]
end
end Go.Am

/- What one operation of the dump does: numbers, tests, slices, append. -/
namespace Go.Am
section
variable {P : Program} {c : dR} {X : Nat -> Prop} {φ : dq} {w : World} {env : Env} {H : Heap} {a : Act} {o : Oper}

theorem aa0 {x y z : Operand} {t : Bool} {u v : AV} (eK : o.op = .pick x y z) (hh : b8 X φ w H) (r : bR (Rd X φ w) φ (.bool t) (a.eval x)) (ru : bR (Rd X φ w) φ u (a.eval y)) (rv : bR (Rd X φ w) φ v (a.eval z)) :
  Ok P X φ w o a (if t then u else v) H := by
 have hx := nM r;cases t
 ·exact Ok.quiet (v' := a.eval z) (by simp [execOp,eK,hx,asBool]) (by simpa using rv) hh
 ·exact Ok.quiet (v' := a.eval y) (by simp [execOp,eK,hx,asBool]) (by simpa using ru) hh
theorem ae3 {op : BinOp} {t t' : TypeId} {x y : Operand} {u v r : AV} (eK : o.op = .binOp op t x y t') (hh : b8 X φ w H) (ru : bR (Rd X φ w) φ u (a.eval x)) (rv : bR (Rd X φ w) φ v (a.eval y)) (hr : oM op u v = some r) :
  Ok P X φ w o a r H := by
 have xf := hr;unfold oM at xf;split at xf
 ·rename_i k n k' n';have hx := iF ru;have hy := iF rv;obtain ⟨v',h1,h2⟩ := aax (P := P) (w := w) (t := t) hr;exact Ok.quiet (v' := v') (by simp [execOp,eK,hx,hy,eqGuard_at_int,h1]) (h2 _ _) hh
 ·cases xf

theorem OK (d : Nat) {t e : TypeId} (h : P.underlying t = some (.slice e)) (x : Option Addr) (n m : Nat) : (Op.equalIn (d + 1) t (.slice x n m) (.slice none 0 0)).run P w = .ok x.isNone w := by
 cases x <;> simp [Op.equalIn,run_underlying h]
theorem L3 (d : Nat) {t e : TypeId} (h : P.underlying t = some (.pointer e)) (x : Option Addr) : (Op.equalIn (d + 1) t (.pointer x) (.pointer none)).run P w = .ok x.isNone w := by
 cases x <;> simp [Op.equalIn,run_underlying h]
theorem OL (d : Nat) {t : TypeId} {ps rs : Array TypeId} {vr : Bool} (h : P.underlying t = some (.func ps rs vr)) (f : Fn) (x y : Array Value) : (Op.equalIn (d + 1) t (.func f x y) .nilFunc).run P w = .ok false w := by
 simp [Op.equalIn,run_underlying h]
theorem L4 (d : Nat) {t : TypeId} {ps rs : Array TypeId} {vr : Bool} (h : P.underlying t = some (.func ps rs vr)) : (Op.equalIn (d + 1) t .nilFunc .nilFunc).run P w = .ok true w := by
 simp [Op.equalIn,run_underlying h]
theorem aaw {op : BinOp} {ng : Bool} {t : TypeId} {x y : Operand} {u v : Value} {e : Bool} (ho : eqOp op ng = true) (hg : (eqGuard op t x y u v).run P w = .ok () w) (hb : ∀ op',binOp .eql t u v = (do pure (.bool (<- Op.equal t u v))) /\ (op' = BinOp.neq -> binOp .neq t u v = (do pure (.bool (!(<- Op.equal t u v))))))
  (h : (Op.equalIn 10000 t u v).run P w = .ok e w) : (do eqGuard op t x y u v; binOp op t u v).run P w = .ok (.bool (if ng then !e else e)) w := by
 have h' : (Op.equal t u v).run P w = .ok e w := by unfold Op.equal Op.maxDepth; exact h
 cases op <;> simp [eqOp] at ho
 ·subst ho;simp only [Sem.run_bind,hg,Result.andThen_ok,(hb .eql).1,h',Sem.run_pure];simp
 ·subst ho;simp only [Sem.run_bind,hg,Result.andThen_ok,(hb .neq).2 rfl,h',Sem.run_pure];simp
theorem ok_eq {op : BinOp} {ng : Bool} {et : Et} {t t' : TypeId} {x y : Operand} {u v : AV} {e : Bool} (eK : o.op = .binOp op t x y t') (hh : b8 X φ w H) (ho : eqOp op ng = true) (hc : Gt P t et = true) (ru : bR (Rd X φ w) φ u (a.eval x)) (rv : bR (Rd X φ w) φ v (a.eval y)) (hr : Gd et u v = some e) :
  Ok P X φ w o a (.bool (if ng then !e else e)) H := by
 have fin : ∀ {p q : Value},a.eval x = p -> a.eval y = q -> (eqGuard op t x y p q).run P w = .ok () w ->
   (∀ op',binOp .eql t p q = (do pure (.bool (<- Op.equal t p q))) /\ (op' = BinOp.neq -> binOp .neq t p q = (do pure (.bool (!(<- Op.equal t p q)))))) -> (Op.equalIn 10000 t p q).run P w = .ok e w ->
   Ok P X φ w o a (.bool (if ng then !e else e)) H := by
  intro p q hp hq hg hb h;have := aaw (x := x) (y := y) ho hg hb h;refine Ok.quiet ?_ (.bool _ _) hh;simp only [execOp,eK,hp,hq,Sem.run_bind,Result.andThen_ok,Sem.run_pure] at this ⊢;rw [this];rfl
 unfold Gd at hr;split at hr
 ·rename_i b b';simp at hr;subst hr;have hx := nM ru;have hy := nM rv;simp only [Gt] at hc;split at hc
  ·rename_i hu;refine fin hx hy (by rw [eqGuard_at_bool]; rfl) (fun _ => ⟨by simp [binOp],fun _ => by simp [binOp]⟩) ?_;exact run_equalIn_bool w 9999 t b b' hu
  ·cases hc
 ·rename_i l xs ys;generalize hx : a.eval x = p at ru;generalize hy : a.eval y = q at rv;cases ru with
  | agg _ _ vx C6 hrx =>
    cases rv with
    | agg _ _ vy C5 hry =>
      simp only [Gt] at hc;split at hc
      ·rename_i fs hu;simp only [aa,bD] at hc;obtain ⟨⟨Tv,G4⟩,hc3⟩ := hc;have hfo : P.fieldsOf t = fs := by simp [Program.fieldsOf,hu]
       refine fin hx hy (run_eqGuard_agg w op t x y vx vy G4) (fun _ => ⟨by simp [binOp],fun _ => by simp [binOp]⟩) ?_;rw [show (10000 : Nat) = 9999 + 1 from rfl,run_equalIn_struct w 9999 t vx vy (by rw [hu,hfo]) Tv,hfo];exact yN 9998 fs.toList l 0 xs ys vx vy e hc3 (by simpa using hr) C6 C5 hrx hry
      ·cases hc
 ·generalize hy : a.eval y = q at rv;cases rv;simp only [Gt] at hc;split at hc
  ·rename_i el hu
   have sl : ∀ {ad : Option Addr} {n m : Nat},a.eval x = .slice ad n m -> ad.isNone = e -> Ok P X φ w o a (.bool (if ng then !e else e)) H := by
    intro ad n m hx he;subst he;exact fin hx hy (by rw [eqGuard_at_slice]; rfl) (fun _ => ⟨by simp [binOp],fun _ => by simp [binOp]⟩) (OK 9999 hu ad n m)
   generalize hx : a.eval x = p at ru;cases ru <;> simp [isNil] at hr
   case dn => exact sl hx (by simpa using hr)
   case sl => exact sl hx (by simpa using hr)
   case ub xs _ _ _ _ _ _ _ _ _ =>
    cases xs <;> simp [isNil] at hr
    exact sl hx (by simpa using hr)
  ·cases hc
 ·generalize hy : a.eval y = q at rv;cases rv;simp only [Gt] at hc;split at hc
  ·rename_i el hu
   have pt : ∀ {ad : Option Addr},a.eval x = .pointer ad -> ad.isNone = e -> Ok P X φ w o a (.bool (if ng then !e else e)) H := by
    intro ad hx he;subst he;exact fin hx hy (by rw [eqGuard_at_pointer]; rfl) (fun _ => ⟨by cases ad <;> simp [binOp],fun _ => by cases ad <;> simp [binOp]⟩) (L3 9999 hu ad)
   generalize hx : a.eval x = p at ru;cases ru <;> simp [isNil] at hr
   case eP => exact pt hx (by simpa using hr)
   case ptr => exact pt hx (by simpa using hr)
   case dh => exact pt hx (by simpa using hr)
  ·cases hc
 ·generalize hy : a.eval y = q at rv;cases rv;simp only [Gt] at hc;split at hc
  ·rename_i ps rs vr hu;generalize hx : a.eval x = p at ru;cases ru <;> simp [isNil] at hr
   case eT => subst hr; exact fin hx hy (by rw [eqGuard_at_nilFunc]; rfl) (fun _ => ⟨by simp [binOp],fun _ => by simp [binOp]⟩) (L4 9999 hu)
   case func => subst hr; exact fin hx hy (by rw [eqGuard_at_func]; rfl) (fun _ => ⟨by simp [binOp],fun _ => by simp [binOp]⟩) (OL 9999 hu _ _ _)
  ·cases hc
 ·cases hr
theorem agy {op : UnOp} {t : TypeId} {x : Operand} {u r : AV} (eK : o.op = .unOp op t x) (hh : b8 X φ w H) (ru : bR (Rd X φ w) φ u (a.eval x)) (hr : Oq op u = some r) : Ok P X φ w o a r H := by
 unfold Oq at hr;split at hr
 ·have hx := iF ru;simp at hr; subst hr;exact Ok.quiet (v' := .int _ _) (by simp [execOp,eK,hx,Op.unary,Op.intArith]) (.int _ _ _) hh
 ·have hx := iF ru;simp at hr; subst hr;exact Ok.quiet (by simp [execOp,eK,hx,Op.unary,intBits_xor]) (.int _ _ _) hh
 ·have hx := nM ru;simp at hr; subst hr;exact Ok.quiet (by simp [execOp,eK,hx,Op.unary]) (.bool _ _) hh
 ·cases hr
theorem ae0 {s d : TypeId} {x : Operand} {k k' : IntKind} {n : Int} (eK : o.op = .convert s d x) (hh : b8 X φ w H) (hs : (P.underlying s).isSome = true) (hd : P.underlying d = some (.int k)) (ru : bR (Rd X φ w) φ (.int k' n) (a.eval x)) :
  Ok P X φ w o a (.int k (k.wrap n)) H := by
 have hx := iF ru;obtain ⟨d',hd'⟩ := aU.mp hs;exact Ok.quiet (by simp [execOp,eK,hx,convert,run_underlying hd',run_underlying hd,Conv.intToInt]) (.int _ _ _) hh
theorem aeO {fn : Fn} {as bs : Array Operand} {xs ys : List E} (eK : o.op = .makeFunc fn as bs) (hh : b8 X φ w H) (he : n7 X φ w env a.tmps) (hg : dH c X φ w) (ha : jk as.toList xs = true) (hb : jk bs.toList ys = true) :
  Ok P X φ w o a (.func fn (Dx c env xs) (Dx c env ys)) H := by
 obtain ⟨l1,h1⟩ := nz he hg ha;obtain ⟨l2,h2⟩ := nz he hg hb;refine Ok.quiet (v' := .func fn (as.map a.eval) (bs.map a.eval)) (by simp [execOp,eK,Instr.makeFunc]) (.func _ _ _ _ _ _ (by simp [l1]) (by simp [l2]) (fun i c v hc hv => h1 i c v hc ?_) (fun i c v hc hv => h2 i c v hc ?_)) hh
 ·simpa using hv
 ·simpa using hv
theorem aeN {t : TypeId} {k : Nat} {zs : List AV} {x y : Operand} {k1 k2 : IntKind} {l cp : Int} (eK : o.op = .makeSlice t x y) (hh : b8 X φ w H) (hk : jc P t k = true) (hz : iJ P t zs = true)
  (rx : bR (Rd X φ w) φ (.int k1 l) (a.eval x)) (ry : bR (Rd X φ w) φ (.int k2 cp) (a.eval y)) (h0 : 0 <= l) (h1 : l <= cp) (h2 : cp <= (kR : Int)) :
  Ok P X φ w o a (.sl k H.length 0 l.toNat) (H ++ [some (rep zs l.toNat)]) := by
 obtain ⟨e,i,z,hu,hi,wF,hk0,hby,Ni,N7⟩ := jj hk;simp only [iJ,hu] at hz;obtain ⟨i',z',xg,yG,dx,_⟩ := rb (X := X) (φ := φ) (w := w) hz;rw [hi] at xg;simp at xg;subst xg;rw [Ni] at yG;simp at yG;subst yG;have Hf : zs.length = k := by have := dx.1; simp at this; omega
 have hx := iF rx;have hy := iF ry;have hL : (kR : Int) = 4294967296 := rfl
 have hb : (i.bytes : Int) * cp <= 281474976710656 := by
  have h3 : (i.bytes : Int) * cp <= 1024 * 4294967296 := Int.mul_le_mul (by omega) (by omega) (by omega) (by omega);omega
 have nQ := run_make (P := P) w t e i z hu hi Ni k1 k2 l cp h0 h1 hb (by omega);have hlc : l.toNat <= cp.toNat := by omega
 have hlk : l.toNat * k <= cp.toNat * k := bG _ hlc;have hms : (madeCells z.cells (cp.toNat * i.size)).size = cp.toNat * k := by rw [size_madeCells,wF]
 obtain ⟨q1,q2⟩ := r9 hh (w1 := w) (arr := madeCells z.cells (cp.toNat * i.size)) (e := e) (cs := rep zs l.toNat) rfl rfl rfl rfl (by rw [kV,hms,Hf]; exact hlk)
  (ON dx (m := cp.toNat * k) (by rw [N7]; exact hlk) hms (fun j hj => by rw [wF]; simp [madeCells,hj]))
 refine Ok.value (v' := .slice (some ⟨w.heap.size,0,none⟩) l.toNat cp.toNat) ?_ (KD hh.len hlc (by rw [hms]; exact ba _)) q1 q2;simp only [execOp,eK,hx,hy,Sem.run_bind,nQ,Result.andThen_ok,Sem.run_pure]

theorem Z0 {x : AV} {hi n : Nat} (h : bnd x hi = some n) : ∃ k i,x = .int k i /\ 0 <= i /\ i <= (hi : Int) /\ n = i.toNat := by
 unfold bnd at h;split at h
 ·rename_i k i;split at h
  ·rename_i hc; simp at h; exact ⟨k,i,rfl,hc.1,hc.2,h.symm⟩
  ·cases h
 ·cases h
theorem vu {x : AV} {len j : Nat} (h : idx x len = some j) : ∃ k i,x = .int k i /\ 0 <= i /\ i < (len : Int) /\ j = i.toNat /\ j < len := by
 unfold idx at h;split at h
 ·rename_i k i;split at h
  ·rename_i hc; simp at h; exact ⟨k,i,rfl,hc.1,hc.2,h.symm,by omega⟩
  ·cases h
 ·cases h
theorem run_sliceBound {k : IntKind} {i : Int} {y : Nat} {cd : BoundsCode} (h0 : 0 <= i) (h1 : i <= (y : Int)) : (Instr.sliceBound (.int k i) y cd).run P w = .ok i.toNat w := by
 simp [Instr.sliceBound,asIntOf,h0,h1]
theorem uk (he : n7 X φ w env a.tmps) (hg : dH c X φ w) {x : Operand} {y : E} {n m cap : Nat} {cd : BoundsCode} (hx : cZ x y = true) (hn : n <= cap) (h : bnd (ev c env y) n = some m) :
  (Instr.sliceBound (a.eval x) cap cd).run P w = .ok m w /\ m <= n := by
 obtain ⟨k,i,e1,e2,e3,e4⟩ := Z0 h;have r := bQ (a := a) he hg hx;rw [e1] at r;rw [iF r,e4];exact ⟨run_sliceBound e2 (by omega),by omega⟩
theorem DV (he : n7 X φ w env a.tmps) (hg : dH c X φ w) {lo hi : Option Operand} {lo' xg : Option E} {n cap h l : Nat} (hlo : pQ lo lo' = true) (U3 : pQ hi xg = true) (hn : n <= cap)
  (hh : Ag c env n n xg = some h) (hl : Ag c env 0 h lo' = some l) : (Instr.sliceBounds true n cap (lo.map a.eval) (hi.map a.eval) none).run P w = .ok (l,h,cap) w /\ l <= h /\ h <= n := by
 cases lo <;> cases lo' <;> simp only [pQ] at hlo <;> try (cases hlo; done)
 all_goals
  cases hi <;> cases xg <;> simp only [pQ] at U3 <;> try (cases U3; done)
 all_goals simp only [Ag] at hh hl
 ·simp at hh hl;subst hh; subst hl;exact ⟨by simp [Instr.sliceBounds],by omega,ba _⟩
 ·obtain ⟨h1,h2⟩ := uk (P := P) (cd := .sliceAcap) he hg U3 hn hh;simp at hl;subst hl;exact ⟨by simp [Instr.sliceBounds,h1],by omega,h2⟩
 ·simp at hh;subst hh;obtain ⟨h1,h2⟩ := uk (P := P) (cd := .sliceB) he hg hlo (ba _) hl;exact ⟨by simp [Instr.sliceBounds,h1],h2,ba _⟩
 ·obtain ⟨h1,h2⟩ := uk (P := P) (cd := .sliceAcap) he hg U3 hn hh;obtain ⟨h3,h4⟩ := uk (P := P) (cd := .sliceB) he hg hlo (ba _) hl;exact ⟨by simp [Instr.sliceBounds,h1,h3],h4,h2⟩
theorem aau {t e : TypeId} {i : TypeInfo} (hu : P.underlying t = some (.slice e)) (hi : P.info? e = some i) {ad : Option Addr} {n cap l h : Nat} {lo xg : Option Value} (hb : (Instr.sliceBounds true n cap lo xg none).run P w = .ok (l,h,cap) w) :
  (Instr.sliceAt t (.slice ad n cap) lo xg none).run P w = .ok (.slice (if cap = l then ad else ad.map (·.add (l * i.size))) (h - l) (cap - l)) w := by
 simp only [Instr.sliceAt,Instr.slice,Sem.run_bind,run_underlying hu,Result.andThen_ok,hb,iZ hi,Sem.run_pure]
theorem aeL {t : TypeId} {k : Nat} {x : Operand} {y : E} {lo hi : Option Operand} {lo' xg : Option E} {v : AV} {H' : Heap} {fl : Fp} {call : Nat -> List AV -> Heap -> Option (AV × Heap)} (eK : o.op = .slice t x lo hi none) (hh : b8 X φ w H) (he : n7 X φ w env a.tmps) (hg : dH c X φ w)
  (hk : jc P t k = true) (hx : cZ x y = true) (hlo : pQ lo lo' = true) (U3 : pQ hi xg = true) (hs : fc c call env H (.GY k y lo' xg) = some (v,H',fl)) : Ok P X φ w o a v H' := by
 obtain ⟨e,i,z,hu,PN,wF,hk0,hby,Ni,N7⟩ := jj hk;have r := bQ (a := a) he hg hx;simp only [fc] at hs;split at hs
 case h_2 => cases hs
 rename_i n hn;split at hs
 case h_2 => cases hs
 rename_i h hhv;split at hs
 case h_2 => cases hs
 rename_i l hlv
 have fin : ∀ {ad : Option Addr} {cap : Nat},a.eval x = .slice ad n cap -> n <= cap -> l <= h -> h <= n -> (l <= h -> h <= n -> bR (Rd X φ w) φ v (.slice (if cap = l then ad else ad.map (·.add (l * k))) (h - l) (cap - l))) -> H' = H -> Ok P X φ w o a v H' := by
  intro ad cap Ob hnc _ _ hr hH;obtain ⟨h1,h2,h3⟩ := DV (P := P) he hg hlo U3 hnc hhv hlv;have := aau (P := P) hu PN (ad := ad) h1;rw [wF] at this;subst hH;exact Ok.quiet (by simp only [execOp,eK,Ob,Dg,Sem.run_bind,this,Result.andThen_ok,Sem.run_pure]) (hr h2 h3) hh
 have le : ∀ cap,n <= cap -> l <= h /\ h <= n := fun cap hc => (DV (P := P) he hg hlo U3 hc hhv hlv).2;obtain ⟨hlh,hhn⟩ := le n (ba _);generalize hy : ev c env y = yv at hs r hn;cases yv <;> simp only [Yy,ai] at hn <;> try (cases hn; done)
 ·subst hn;simp at hs;obtain ⟨rfl,rfl,rfl⟩ := hs;generalize Ob : a.eval x = ax at r;cases r;have hh0 : h = 0 := by omega
  have hl0 : l = 0 := by omega
  subst hh0; subst hl0;exact fin Ob (ba _) (ba _) (ba _) (fun _ _ => by simp; exact .dn _) rfl
 ·rename_i k' xs;simp only at hs;split at hs
  case isFalse => cases hs
  rename_i C7;subst C7;simp at hs;obtain ⟨rfl,rfl,rfl⟩ := hs;generalize Ob : a.eval x = ax at r;cases r with
  | ub _ _ _ ad n' cap u N9 jW hkc hur hr =>
    subst hn;subst N9;refine fin Ob jW hlh hhn (fun _ _ => ?_) rfl;have hlen : ((xs.take h).drop l).length = h - l := by simp; omega
    by_cases Lt : cap = l
    ·have h0 : (xs.take h).drop l = [] := di (by omega);rw [if_pos Lt,h0];refine .ub _ _ _ _ _ _ u (by simp; omega) (by omega) (by simp) (fun i j x c hx => by simp at hx) (fun i j x c hx => by simp at hx)
    ·rw [if_neg Lt]
     have get : ∀ (i : Nat) (x : AV),((xs.take h).drop l)[i]? = some x -> xs[l + i]? = some x := by
      intro i x hx;rw [aS,bB] at hx;split at hx
      ·exact hx
      ·cases hx
     refine .ub _ _ _ _ _ _ (fun i j => u (l + i) j) hlen.symm (by omega) (fun x hx => ?_) (fun i j x c hx hc => ?_) (fun i j x c hx hc => hr (l + i) j x c (get i x hx) hc)
     ·obtain ⟨i,hi⟩ := bA hx;exact hkc x (List.mem_of_getElem? (get i x hi))
     ·have := hur (l + i) j x c (get i x hx) hc;rw [Addr.add_add]
      rwa [show l * k' + (i * k' + j) = (l + i) * k' + j by rw [bX]; omega]
  | kL =>
    simp at hn;subst hn;have hh0 : h = 0 := by omega
    have hl0 : l = 0 := by omega
    subst hh0; subst hl0;exact fin Ob (ba _) (ba _) (ba _) (fun _ _ => by simp; exact .kL _ _) rfl
 ·rename_i k' b off len;simp only at hs;split at hs
  case isFalse => cases hs
  rename_i C7;subst C7;simp at hs;obtain ⟨rfl,rfl,rfl⟩ := hs;subst hn;generalize Ob : a.eval x = ax at r;cases r with
  | sl _ _ _ _ _ ad cap hb hc hp =>
    refine fin Ob hc hlh hhn (fun _ _ => ?_) rfl;have e : (if cap = l then (some ad : Option Addr) else Option.map (·.add (l * k')) (some ad)) = some (if cap = l then ad else ad.add (l * k')) := by split <;> simp
    rw [e];refine .sl _ _ _ _ _ _ _ hb (by omega) fun g sz hg => ?_;obtain ⟨h1,h2⟩ := hp g sz hg;have hmul : l * k' + (cap - l) * k' = cap * k' := by rw [<- bX]; congr 1; omega
    refine ⟨fun h0 => ?_,by omega⟩;rw [if_neg (by omega),h1 (by omega),Addr.jd]

theorem Lv.drop {cs : List AV} {ad : Addr} (h : Lv X φ w cs ad) (n : Nat) : Lv X φ w (cs.drop n) (ad.add n) := by
 intro j x hx;rw [aS] at hx;rw [Addr.add_add];exact h _ _ hx
theorem I4 {cs : List AV} {v : Value} (h : bR (Rd X φ w) φ (.dh cs) v) (n : Nat) : ∃ ad,v = .pointer (some ad) /\ bR (Rd X φ w) φ (.dh (cs.drop n)) (.pointer (some (ad.add n))) := by
 cases h with
 | dh _ _ ad u hu h =>
   refine ⟨ad,rfl,.dh _ _ _ (fun j => u (n + j)) (fun j c hc => ?_) (fun j c hc => ?_)⟩
   ·rw [aS] at hc;rw [Addr.add_add];exact hu _ _ hc
   ·rw [aS] at hc;exact h _ _ hc
theorem Sz {b off : Nat} {v : Value} (h : bR (Rd X φ w) φ (.ptr b off) v) (n : Nat) : ∃ ad,v = .pointer (some ad) /\ bR (Rd X φ w) φ (.ptr b (off + n)) (.pointer (some (ad.add n))) := by
 cases h with
 | ptr _ _ _ ad hb h =>
   refine ⟨ad,rfl,.ptr _ _ _ _ hb fun g sz hg => ?_⟩;rw [h g sz hg,Addr.jd]

theorem Ww (he : n7 X φ w env a.tmps) (hg : dH c X φ w) {hi : Option Operand} {xg : Option E} {n h : Nat} (U3 : pQ hi xg = true) (hh : Ag c env n n xg = some h) : (Instr.sliceBounds false n n none (hi.map a.eval) none).run P w = .ok (0,h,n) w /\ h <= n := by
 cases hi <;> cases xg <;> simp only [pQ] at U3 <;> try (cases U3; done)
 all_goals simp only [Ag] at hh
 ·simp at hh;subst hh;exact ⟨by simp [Instr.sliceBounds],ba _⟩
 ·obtain ⟨h1,h2⟩ := uk (P := P) (cd := .sliceAlen) he hg U3 (ba _) hh;exact ⟨by simp [Instr.sliceBounds,h1],h2⟩
theorem ae4 {t : TypeId} {n : Nat} {x : Operand} {y : E} {hi : Option Operand} {xg : Option E} {v : AV} {H' : Heap} {fl : Fp} {call : Nat -> List AV -> Heap -> Option (AV × Heap)} (eK : o.op = .slice t x none hi none) (hh : b8 X φ w H) (he : n7 X φ w env a.tmps) (hg : dH c X φ w) (U3 : pQ hi xg = true) (r : bR (Rd X φ w) φ (ev c env y) (a.eval x))
  (hk : (match P.underlying t with
  | some (.array n' e) => decide (n = n') && mV P e 1
  | _ => false) = true) (hs : fc c call env H (.Hw n y xg) = some (v,H',fl)) : Ok P X φ w o a v H' := by
 split at hk
 case h_2 => cases hk
 rename_i n' e hu;simp only [aa,decide_eq_true_eq] at hk;obtain ⟨rfl,oS⟩ := hk;unfold mV at oS;split at oS
 case h_2 => cases oS
 rename_i i PN;simp only [fc] at hs;split at hs
 case h_2 => cases hs
 rename_i m hm;obtain ⟨bd,Dt⟩ := Ww (P := P) he hg U3 hm;split at hs
 case h_3 => cases hs
 case h_2 =>
  rename_i b off hy;split at hs
  case h_2 => cases hs
  rename_i cs hb;split at hs
  case isFalse => cases hs
  rename_i hc;simp at hs;obtain ⟨rfl,rfl,rfl⟩ := hs;rw [hy] at r;generalize Ob : a.eval x = ax at r;cases r with
  | ptr _ _ _ ad Zh hp =>
    have e0 : (if n = 0 then ad else ad.add (0 * i.size)) = ad := by
     split
     ·rfl
     ·simp [Addr.add]
    have run : (execOp a.eval o).run P w = .ok (.value (.slice (some ad) m n)) w := by
     simp only [execOp,eK,Ob,Dg,Instr.sliceAt,Instr.sureAddr,Sem.run_bind,run_underlying hu,Result.andThen_ok,bd,iZ PN,Sem.run_pure,e0,Nat.sub_zero]
    refine Ok.quiet run ?_ hh;obtain ⟨g,sz,arr,e,h1,h2,h3,h4,_⟩ := hh.at hb;refine .sl _ _ _ _ _ _ _ Zh Dt fun g' nC hg => ?_;rw [h1] at hg;simp only [ai,aF] at hg;obtain ⟨rfl,rfl⟩ := hg;exact ⟨fun _ => hp _ _ h1,by omega⟩
 rename_i cs hy;split at hs
 case isFalse => cases hs
 rename_i hc;obtain ⟨Tv,rfl,G4⟩ := hc;have hc : m <= cs.length /\ bq (cs.take m) = true := ⟨Tv,G4⟩;simp at hs;obtain ⟨rfl,rfl,rfl⟩ := hs;rw [hy] at r;generalize Ob : a.eval x = ax at r;cases r with
 | dh _ _ ad u KU hr =>
   have e0 : (if m = 0 then ad else ad.add (0 * i.size)) = ad := by
    split
    ·rfl
    ·simp [Addr.add]
   have run : (execOp a.eval o).run P w = .ok (.value (.slice (some ad) m m)) w := by
    simp only [execOp,eK,Ob,Dg,Instr.sliceAt,Instr.sureAddr,Sem.run_bind,run_underlying hu,Result.andThen_ok,bd,iZ PN,Sem.run_pure,e0,Nat.sub_zero]
   refine Ok.quiet run ?_ hh
   have get : ∀ {k : Nat} {c : AV},(cs.take m)[k]? = some c -> cs[k]? = some c /\ c.leaf = true := by
    intro k c h;refine ⟨?_,vP hc.2 k c h⟩;rw [bB] at h;split at h
    ·exact h
    ·cases h
   have one : ∀ {c : AV},c.leaf = true -> c.cells = [c] := by
    intro c h;cases c <;> simp [AV.leaf] at h <;> rfl
   refine .ub _ 1 _ ad m m (fun k _ => u k) (by simp; omega) (ba _) (fun c hm => ?_) (fun k j c d h1 h2 => ?_) (fun k j c d h1 h2 => ?_)
   ·obtain ⟨k,hk⟩ := bA hm;rw [one (get hk).2]; rfl
   ·rw [one (get h1).2] at h2;cases j with
    | zero => simp at h2; subst h2; simpa using KU k c (get h1).1
    | succ j => simp at h2
   ·rw [one (get h1).2] at h2;cases j with
    | zero => simp at h2; subst h2; exact hr k c (get h1).1
    | succ j => simp at h2
theorem aeX {s : TypeId} {f off : Nat} {x : Operand} {y : E} {v : AV} {H' : Heap} {fl : Fp} {call : Nat -> List AV -> Heap -> Option (AV × Heap)} (eK : o.op = .fieldAddr s x f) (hh : b8 X φ w H) (r : bR (Rd X φ w) φ (ev c env y) (a.eval x))
  (hk : (match P.underlying s with
  | some (.struct fs) => match fs[f]? with
    | some fd => decide (fd.offset = off) && (match P.info? fd.type with
      | some i => decide (i.size ≠ 0)
      | none => false)
    | none => false
  | _ => false) = true) (hs : fc c call env H (.cH off y) = some (v,H',fl)) : Ok P X φ w o a v H' := by
 split at hk
 case h_2 => cases hk
 rename_i fs hu;split at hk
 case h_2 => cases hk
 rename_i fd hf;simp only [aa,decide_eq_true_eq] at hk;obtain ⟨U0,oS⟩ := hk;split at oS
 case h_2 => cases oS
 rename_i i hi;have hsz' : ¬ i.size = 0 := by simpa using oS
 have run : ∀ {ad : Addr},a.eval x = .pointer (some ad) -> (execOp a.eval o).run P w = .ok (.value (.pointer (some (ad.add off)))) w := by
  intro ad hx;simp only [execOp,eK,hx,Instr.fieldAt,Sem.run_bind,run_underlying hu,Result.andThen_ok,hf,Instr.sureAddr,Sem.run_pure,fieldPlace,iZ hi,hsz',if_false,U0]
 simp only [fc] at hs;split at hs
 ·rename_i b off' hy;simp at hs;obtain ⟨rfl,rfl,rfl⟩ := hs;rw [hy] at r;obtain ⟨ad,h1,h2⟩ := Sz r off;exact Ok.quiet (run h1) h2 hh
 ·rename_i cs hy;simp at hs;obtain ⟨rfl,rfl,rfl⟩ := hs;rw [hy] at r;obtain ⟨ad,h1,h2⟩ := I4 r off;exact Ok.quiet (run h1) h2 hh
 ·cases hs
theorem aeW {s : TypeId} {f off : Nat} {ag : Option Nat} {x : Operand} {y : E} {v : AV} {H' : Heap} {fl : Fp} {call : Nat -> List AV -> Heap -> Option (AV × Heap)} (eK : o.op = .field s x f) (hh : b8 X φ w H) (r : bR (Rd X φ w) φ (ev c env y) (a.eval x))
  (hk : (match P.underlying s with
  | some (.struct fs) => match fs[f]? with
    | some fd => decide (fd.offset = off) && decide (nZ P fd.type = some ag)
    | none => false
  | _ => false) = true) (hs : fc c call env H (.Vb off ag y) = some (v,H',fl)) : Ok P X φ w o a v H' := by
 split at hk
 case h_2 => cases hk
 rename_i fs hu;split at hk
 case h_2 => cases hk
 rename_i fd hf;simp only [aa,decide_eq_true_eq] at hk;obtain ⟨U0,Lu⟩ := hk;simp only [fc] at hs;split at hs
 case h_2 => cases hs
 rename_i cs hy;split at hs
 case h_2 => cases hs
 rename_i u KU;simp at hs;obtain ⟨rfl,rfl,rfl⟩ := hs;rw [hy] at r;generalize hx : a.eval x = ax at r;cases r with
 | agg _ _ vs hl hr =>
   obtain ⟨v',h1,h2⟩ := SD Lu hl hr KU;refine Ok.quiet ?_ h2 hh;simp only [execOp,eK,hx,Instr.field,Sem.run_bind,run_underlying hu,Result.andThen_ok,hf,asAgg,Sem.run_pure,U0,h1]
theorem QQ {t e : TypeId} {i : TypeInfo} (hu : P.underlying t = some (.slice e)) (hi : P.info? e = some i) {ad : Addr} {n cap : Nat} {k : IntKind} {j : Int} (h0 : 0 <= j) (h1 : j < (n : Int)) :
  (Instr.indexAt t (.slice (some ad) n cap) (.int k j)).run P w = .ok (.pointer (some (ad.add (j.toNat * i.size)))) w := by
 simp [Instr.indexAt,asIntOf,run_underlying hu,h0,h1,iZ hi]
theorem aav {t e : TypeId} {i : TypeInfo} {n : Nat} (hu : P.underlying t = some (.array n e)) (hi : P.info? e = some i) {ad : Addr} {k : IntKind} {j : Int} (h0 : 0 <= j) (h1 : j < (n : Int)) :
  (Instr.indexAt t (.pointer (some ad)) (.int k j)).run P w = .ok (.pointer (some (ad.add (j.toNat * i.size)))) w := by
 simp [Instr.indexAt,asIntOf,Instr.sureAddr,run_underlying hu,h0,h1,iZ hi]
theorem aeU {t : TypeId} {k : Nat} {x xi : Operand} {y yi : E} {v : AV} {H' : Heap} {fl : Fp} {call : Nat -> List AV -> Heap -> Option (AV × Heap)} (eK : o.op = .indexAddr t x xi) (hh : b8 X φ w H) (r : bR (Rd X φ w) φ (ev c env y) (a.eval x))
  (ri : bR (Rd X φ w) φ (ev c env yi) (a.eval xi)) (hk : jc P t k = true) (hs : fc c call env H (.fa k y yi) = some (v,H',fl)) : Ok P X φ w o a v H' := by
 obtain ⟨e,i,z,hu,PN,wF,hk0,hby,Ni,N7⟩ := jj hk;simp only [fc] at hs;split at hs
 ·rename_i k' xs hy;split at hs
  case h_2 => cases hs
  rename_i j hj;obtain ⟨kk,ii,e1,e2,e3,e4,e5⟩ := vu hj;split at hs
  case isFalse => cases hs
  rename_i C7;subst C7;split at hs
  case h_2 => cases hs
  rename_i el hel;simp at hs;obtain ⟨rfl,rfl,rfl⟩ := hs;rw [e1] at ri;have YN := iF ri;rw [hy] at r;generalize hx : a.eval x = ax at r;cases r with
  | ub _ _ _ ad n cap u hn jW hkc hur hr =>
    have nQ := QQ (P := P) (w := w) hu PN (ad := ad) (n := n) (cap := cap) (k := kk) e2 (by omega);refine Ok.quiet (v' := .pointer (some (ad.add (ii.toNat * i.size)))) (by simp only [execOp,eK,hx,YN,Sem.run_bind,nQ,Result.andThen_ok,Sem.run_pure]) (.dh _ _ _ (fun m => u j m) (fun m c hc => ?_) (fun m c hc => hr j m el c hel hc)) hh;rw [Addr.add_add,wF,<- e4];exact hur j m el c hel hc
  | kL => simp at hel
 ·rename_i k' b off len hy;split at hs
  case h_2 => cases hs
  rename_i j hj;obtain ⟨kk,ii,e1,e2,e3,e4,e5⟩ := vu hj;split at hs
  case isFalse => cases hs
  rename_i C7;subst C7;simp at hs;obtain ⟨rfl,rfl,rfl⟩ := hs;rw [e1] at ri;have YN := iF ri;rw [hy] at r;generalize hx : a.eval x = ax at r;cases r with
  | sl _ _ _ _ _ ad cap hb hc hp =>
    have nQ := QQ (P := P) (w := w) hu PN (ad := ad) (n := len) (cap := cap) (k := kk) e2 (by omega);refine Ok.quiet (v' := .pointer (some (ad.add (ii.toNat * i.size)))) (by simp only [execOp,eK,hx,YN,Sem.run_bind,nQ,Result.andThen_ok,Sem.run_pure]) (.ptr _ _ _ _ hb fun g sz hg => ?_) hh;rw [(hp g sz hg).1 (by omega),Addr.jd,wF,e4]
 ·cases hs
theorem aeT {t : TypeId} {n k : Nat} {x xi : Operand} {y yi : E} {v : AV} {H' : Heap} {fl : Fp} {call : Nat -> List AV -> Heap -> Option (AV × Heap)} (eK : o.op = .indexAddr t x xi) (hh : b8 X φ w H) (r : bR (Rd X φ w) φ (ev c env y) (a.eval x))
  (ri : bR (Rd X φ w) φ (ev c env yi) (a.eval xi)) (hk : (match P.underlying t with
  | some (.array n' e) => decide (n = n') && mV P e k
  | _ => false) = true) (hs : fc c call env H (.He n k y yi) = some (v,H',fl)) : Ok P X φ w o a v H' := by
 split at hk
 case h_2 => cases hk
 rename_i n' e hu;simp only [aa,decide_eq_true_eq] at hk;obtain ⟨rfl,oS⟩ := hk;unfold mV at oS;split at oS
 case h_2 => cases oS
 rename_i i hi;have wF : i.size = k := by simpa using oS
 simp only [fc] at hs;split at hs
 case h_2 => cases hs
 rename_i j hj;obtain ⟨kk,ii,e1,e2,e3,e4,e5⟩ := vu hj;rw [e1] at ri;have YN := iF ri
 have run : ∀ {ad : Addr},a.eval x = .pointer (some ad) -> (execOp a.eval o).run P w = .ok (.value (.pointer (some (ad.add (j * k))))) w := by
  intro ad hx;have nQ := aav (P := P) (w := w) hu hi (ad := ad) (k := kk) e2 e3;simp only [execOp,eK,hx,YN,Sem.run_bind,nQ,Result.andThen_ok,Sem.run_pure,wF,e4]
 split at hs
 ·rename_i b off hy;simp at hs;obtain ⟨rfl,rfl,rfl⟩ := hs;rw [hy] at r;obtain ⟨ad,h1,h2⟩ := Sz r (j * k);exact Ok.quiet (run h1) h2 hh
 ·rename_i cs hy;simp at hs;obtain ⟨rfl,rfl,rfl⟩ := hs;rw [hy] at r;obtain ⟨ad,h1,h2⟩ := I4 r (j * k);exact Ok.quiet (run h1) h2 hh
 ·cases hs
theorem agA {t : TypeId} {n k : Nat} {ag : Option Nat} {x xi : Operand} {y yi : E} {v : AV} {H' : Heap} {fl : Fp} {call : Nat -> List AV -> Heap -> Option (AV × Heap)} (eK : o.op = .index t x xi) (hh : b8 X φ w H) (r : bR (Rd X φ w) φ (ev c env y) (a.eval x))
  (ri : bR (Rd X φ w) φ (ev c env yi) (a.eval xi)) (hk : (match P.underlying t with
  | some (.array n' e) => decide (n = n') && mV P e k && decide (nZ P e = some ag)
  | _ => false) = true) (hs : fc c call env H (.ix n k ag y yi) = some (v,H',fl)) : Ok P X φ w o a v H' := by
 split at hk
 case h_2 => cases hk
 rename_i n' e hu;simp only [aa,decide_eq_true_eq] at hk;obtain ⟨⟨rfl,oS⟩,Lu⟩ := hk;unfold mV at oS;split at oS
 case h_2 => cases oS
 rename_i i hi;have wF : i.size = k := by simpa using oS
 simp only [fc] at hs;split at hs
 case h_2 => cases hs
 rename_i j hj;obtain ⟨kk,ii,e1,e2,e3,e4,e5⟩ := vu hj;rw [e1] at ri;have YN := iF ri;split at hs
 case h_2 => cases hs
 rename_i cs hy;split at hs
 case h_2 => cases hs
 rename_i u KU;simp at hs;obtain ⟨rfl,rfl,rfl⟩ := hs;rw [hy] at r;generalize hx : a.eval x = ax at r;cases r with
 | agg _ _ vs hl hr =>
   obtain ⟨v',h1,h2⟩ := SD Lu hl hr KU;refine Ok.quiet ?_ h2 hh;rw [e4] at h1;simp only [execOp,eK,hx,YN,Instr.index,asIntOf,Sem.run_bind,Sem.run_pure,run_underlying hu,Result.andThen_ok,e2,e3,and_self,if_true,iZ hi,wF,h1]
theorem aeY {x : Operand} {i : Nat} {vs : List AV} {v : AV} (eK : o.op = .extract x i) (hh : b8 X φ w H) (r : bR (Rd X φ w) φ (.dp vs) (a.eval x)) (hv : vs[i]? = some v) : Ok P X φ w o a v H := by
 generalize hx : a.eval x = ax at r;cases r with
 | dp _ _ us hl hr =>
   obtain ⟨u,hu⟩ := c7 (l := us) (i := i) (by have := aq hv; omega);exact Ok.quiet (by simp only [execOp,eK,hx,Instr.extract,hu,Sem.run_bind,Sem.run_pure,Result.andThen_ok]) (hr i v u hv hu) hh
theorem XZ {x : Operand} {y : E} {v : AV} {H' : Heap} {fl : Fp} {call : Nat -> List AV -> Heap -> Option (AV × Heap)} (eK : o.op = .nilCheck x) (hh : b8 X φ w H) (r : bR (Rd X φ w) φ (ev c env y) (a.eval x))
  (hs : fc c call env H (.mu y) = some (v,H',fl)) : Ok P X φ w o a v H' := by
 simp only [fc] at hs;split at hs
 ·rename_i b off hy;simp at hs;obtain ⟨rfl,rfl,rfl⟩ := hs;rw [hy] at r;generalize hx : a.eval x = ax at r;have r' := r;cases r;exact Ok.quiet (by simp only [execOp,eK,hx,Sem.run_pure]) r' hh
 ·rename_i cs hy;simp at hs;obtain ⟨rfl,rfl,rfl⟩ := hs;rw [hy] at r;generalize hx : a.eval x = ax at r;have r' := r;cases r;exact Ok.quiet (by simp only [execOp,eK,hx,Sem.run_pure]) r' hh
 ·rename_i f as bs hy;simp at hs;obtain ⟨rfl,rfl,rfl⟩ := hs;rw [hy] at r;generalize hx : a.eval x = ax at r;have r' := r;cases r;exact Ok.quiet (by simp only [execOp,eK,hx,Sem.run_pure]) r' hh
 ·cases hs
theorem aeQ {ca : Call} {x : Operand} {t : TypeId} {y : E} {v : AV} {H' : Heap} {fl : Fp} {call : Nat -> List AV -> Heap -> Option (AV × Heap)} (eK : o.op = .call ca) (Hk : ca.callee = .builtin .len) (my : ca.args = #[x]) (Lr : ca.argTypes = #[t]) (hh : b8 X φ w H)
  (r : bR (Rd X φ w) φ (ev c env y) (a.eval x)) (hsl : isSlice P t = true) (hs : fc c call env H (.len y) = some (v,H',fl)) : Ok P X φ w o a v H' := by
 unfold isSlice at hsl;split at hsl
 case h_2 => cases hsl
 rename_i e hu
 have run : ∀ {ad : Option Addr} {n cap : Nat},a.eval x = .slice ad n cap -> (execOp a.eval o).run P w = .ok (.value (.int .i64 n)) w := by
  intro ad n cap hx;simp [execOp,eK,resolve,Hk,my,Lr,invoke,builtin,hx,Builtin.len_,run_underlying hu,goInt]
 simp only [fc] at hs;split at hs
 case h_2 => cases hs
 rename_i n hn;simp at hs;obtain ⟨rfl,rfl,rfl⟩ := hs;generalize hy : ev c env y = yv at r hn;generalize hx : a.eval x = ax at r;cases yv <;> simp only [Yy,ai] at hn <;> try (cases hn; done)
 ·subst hn;cases r;exact Ok.quiet (run hx) (.int _ _ _) hh
 ·cases r with
  | ub _ _ _ ad m cap u hm =>
    subst hm; subst hn;exact Ok.quiet (run hx) (.int _ _ _) hh
  | kL => simp at hn; subst hn; exact Ok.quiet (run hx) (.int _ _ _) hh
 ·subst hn;cases r;exact Ok.quiet (run hx) (.int _ _ _) hh
theorem L2 (mx : Bool) : ∀ (xs : List AV) (vs : List Value) (k : IntKind) (n : Int) (r : AV),zK mx (.int k n) xs = some r -> xs.length = vs.length -> (∀ (i : Nat) (c : AV) (v : Value),xs[i]? = some c -> vs[i]? = some v -> bR (Rd X φ w) φ c v) ->
  ∃ v,(vs.foldlM (if mx then Builtin.max2 else Builtin.min2) (.int k n)).run P w = .ok v w /\ ∀ R ψ,bR R ψ r v
 | [],[],k,n,r,h,_,_ => by simp [zK] at h; subst h; exact ⟨_,rfl,fun _ _ => .int _ _ _⟩
 | [],_ :: _,_,_,_,_,hl,_ => by simp at hl
 | _ :: _,[],_,_,_,_,hl,_ => by simp at hl
 | x :: xs,v :: vs,k,n,r,h,hl,hr => by
   cases x <;> simp only [zK] at h <;> try (cases h; done)
   rename_i k' m;obtain rfl := iF (hr 0 _ v rfl rfl);obtain ⟨v',h1,h2⟩ := L2 mx xs vs k _ r h (by simpa using hl) (fun i c u hc hu => hr (i + 1) c u (by simpa using hc) (by simpa using hu));refine ⟨v',?_,h2⟩;cases mx
   ·simp only [bO,if_false] at h1 ⊢;simp only [List.foldlM_cons,Builtin.min2,Sem.run_bind,Sem.run_pure,Result.andThen_ok];exact h1
   ·simp only [if_true] at h1 ⊢;simp only [List.foldlM_cons,Builtin.max2,Sem.run_bind,Sem.run_pure,Result.andThen_ok];exact h1
theorem X0 {mx : Bool} {ca : Call} {ys : List E} {v : AV} (eK : o.op = .call ca) (Hk : ca.callee = .builtin (if mx then .max else .min)) (hh : b8 X φ w H) (he : n7 X φ w env a.tmps) (hg : dH c X φ w)
  (my : jk ca.args.toList ys = true) (hm : yg mx (Dx c env ys) = some v) : Ok P X φ w o a v H := by
 obtain ⟨hl,hr⟩ := nz he hg my;generalize hxs : Dx c env ys = xs at hm hl hr;have Lq : (ca.args.map a.eval).toList = ca.args.toList.map a.eval := by simp
 cases xs with
 | nil => simp [yg] at hm
 | cons x xs =>
   cases x <;> simp only [yg] at hm <;> try (cases hm; done)
   rename_i k n;cases hav : ca.args.toList.map a.eval with
   | nil => have := congrArg List.length hav; simp at this hl; rw [this] at hl; simp at hl
   | cons u us =>
     rw [hav] at hr;obtain rfl := iF (hr 0 _ u rfl rfl);obtain ⟨v',h1,h2⟩ := L2 (P := P) mx xs us k n v hm (by have := congrArg List.length hav; simp at this hl; omega) (fun i c w' hc hw => hr (i + 1) c w' (by simpa using hc) (by simpa using hw));refine Ok.quiet (v' := v') ?_ (h2 _ _) hh;cases mx
     ·simp only [bO,if_false] at h1 Hk;simp only [execOp,eK,resolve,Hk,invoke,builtin,Builtin.min_,Lq,hav,Sem.run_bind,Sem.run_pure,Result.andThen_ok,h1]
     ·simp only [if_true] at h1 Hk;simp only [execOp,eK,resolve,Hk,invoke,builtin,Builtin.max_,Lq,hav,Sem.run_bind,Sem.run_pure,Result.andThen_ok,h1]
theorem aeS {t : TypeId} {s : ByteArray} {tab : List Nat} {xi : Operand} {yi : E} {v : AV} {H' : Heap} {fl : Fp} {call : Nat -> List AV -> Heap -> Option (AV × Heap)} (eK : o.op = .index t (.const (.string s)) xi) (hh : b8 X φ w H)
  (ri : bR (Rd X φ w) φ (ev c env yi) (a.eval xi)) (hu : (match P.underlying t with
  | some .string => true
  | _ => false) = true) (htab : s.data.toList.map (·.toNat) = tab) (hs : fc c call env H (.UP tab yi) = some (v,H',fl)) : Ok P X φ w o a v H' := by
 split at hu
 case h_2 => cases hu
 rename_i hu0;clear hu;simp only [fc] at hs;split at hs
 case h_2 => cases hs
 rename_i j hj;obtain ⟨kk,ii,e1,e2,e3,e4,e5⟩ := vu hj;rw [e1] at ri;have YN := iF ri;split at hs
 case h_2 => cases hs
 rename_i u KU;simp at hs;obtain ⟨rfl,rfl,rfl⟩ := hs;subst htab
 have bz : j < s.size := by
  have h1 : s.data.size = s.size := rfl;have h2 := e5;simp at h2;omega
 have hsj : s[j]? = some s[j] := getElem?_pos s j bz
 have YP : s[j].toNat = u := by
  rw [cU] at KU
  have : s.data.toList[j]? = some s[j] := by
   rw [jS];exact Hz bz
  rw [this] at KU;simpa using KU
 refine Ok.quiet (v' := .int .u8 u) ?_ (.int _ _ _) hh;subst e4;have dx : a.eval (.const (.string s)) = .string s := rfl;simp only [execOp,eK,dx,YN,Instr.index,asIntOf,Sem.run_bind,Sem.run_pure,run_underlying hu0,Result.andThen_ok,e2,if_true,hsj,YP]
theorem ae1 {ca : Call} {x : Operand} {t : TypeId} {k : Nat} {zs : List AV} {y : E} {v : AV} {H' : Heap} {fl : Fp} {call : Nat -> List AV -> Heap -> Option (AV × Heap)} (eK : o.op = .call ca) (Hk : ca.callee = .builtin .clear) (my : ca.args = #[x]) (Lr : ca.argTypes = #[t]) (hh : b8 X φ w H)
  (r : bR (Rd X φ w) φ (ev c env y) (a.eval x)) (hk : jc P t k = true) (hz : iJ P t zs = true) (hs : fc c call env H (.Vh k zs y) = some (v,H',fl)) : Ok P X φ w o a v H' := by
 obtain ⟨e,i,z,hu,hi,wF,hk0,hby,Ni,N7⟩ := jj hk;simp only [iJ,hu] at hz;obtain ⟨i',z',xg,yG,dx,wE⟩ := rb (X := X) (φ := φ) (w := w) hz;rw [hi] at xg;simp at xg;subst xg;rw [Ni] at yG;simp at yG;subst yG;have Hf : zs.length = k := by have := dx.1; simp at this; omega
 have run0 : ∀ {ad : Option Addr} {cap : Nat},a.eval x = .slice ad 0 cap -> (execOp a.eval o).run P w = .ok (.value (.tuple #[])) w := by
  intro ad cap hx;cases ad <;> simp [execOp,eK,resolve,Hk,my,Lr,invoke,builtin,hx,Builtin.clear_,run_underlying hu]
 simp only [fc] at hs;split at hs
 ·rename_i hy;simp at hs;obtain ⟨rfl,rfl,rfl⟩ := hs;rw [hy] at r;generalize hx : a.eval x = ax at r;cases r;exact Ok.quiet (run0 hx) (.undef _) hh
 ·rename_i k' hy;simp at hs;obtain ⟨rfl,rfl,rfl⟩ := hs;rw [hy] at r;generalize hx : a.eval x = ax at r;cases r with
  | ub _ _ _ ad n cap u hn => simp at hn; subst hn; exact Ok.quiet (run0 hx) (.undef _) hh
  | kL => exact Ok.quiet (run0 hx) (.undef _) hh
 ·rename_i k' b off len hy;rw [hy] at r;split at hs
  ·rename_i h0;subst h0;simp at hs;obtain ⟨rfl,rfl,rfl⟩ := hs;generalize hx : a.eval x = ax at r;cases r;exact Ok.quiet (run0 hx) (.undef _) hh
  ·rename_i h0;split at hs
   case h_2 => cases hs
   rename_i cs hb;split at hs
   case isFalse => cases hs
   rename_i hc;obtain ⟨rfl,nT⟩ := hc;simp at hs;obtain ⟨rfl,rfl,rfl⟩ := hs;generalize hx : a.eval x = ax at r;cases r with
   | sl _ _ _ _ _ ad cap Zh jW hp =>
     obtain ⟨g,sz,arr,e2,h1,h2,h3,h4,h5,h6⟩ := hh.at hb;obtain rfl := (hp g sz h1).1 (by omega)
     have rp : bR (Rd X φ w) φ (.ptr b off) (.pointer (some ⟨g,off,none⟩)) := .ptr _ _ _ _ Zh fun g' nC Za => by
      rw [h1] at Za;simp at Za;rw [Za.1]
     have hcz : Cs X φ w (rep zs len) (Builtin.zeroCells z.cells len).toList := by
      refine ⟨by rw [kV,Hf]; simp [Builtin.zeroCells,N7],fun j c v hc hv => ?_⟩;obtain ⟨u,q1,q2⟩ := ON dx (n := len) (m := len * k') (by rw [N7]; omega) (arr := Builtin.zeroCells z.cells len) (by simp [Builtin.zeroCells,N7]) (fun i hi => by simp [Builtin.zeroCells,N7,hi]) j c hc;rw [jS,q1] at hv;simp at hv;subst hv;exact q2
     obtain ⟨g',w',e1,sa,q1,q2⟩ := DC (P := P) hh hb rp hcz (hcz.sQ (WJ wE len)) (by rw [kV,Hf]; exact nT);simp at e1;subst e1;refine Ok.value (v' := .tuple #[]) ?_ (.undef _) q1 q2;cases len with
     | zero => exact absurd rfl h0
     | succ m => simp [execOp,eK,resolve,Hk,my,Lr,invoke,builtin,hx,Builtin.clear_,run_underlying hu,rn hi Ni,sa]
 ·cases hs
end
end Go.Am

/- append; calls. -/
namespace Go.Am
section
variable {P : Program} {c : dR} {X : Nat -> Prop} {φ : dq} {w : World} {env : Env} {H : Heap} {a : Act} {o : Oper}

theorem iR {k : Nat} : ∀ {xs : List AV},(∀ x ∈ xs,x.cells.length = k) -> (aG xs).length = xs.length * k /\
  ∀ (p : Nat) (c : AV),(aG xs)[p]? = some c -> ∃ i x j,xs[i]? = some x /\ x.cells[j]? = some c /\ p = i * k + j
 | [],_ => ⟨by simp [aG],fun p c h => by simp [aG] at h⟩
 | x :: r,h => by
   obtain ⟨hl,hm⟩ := iR (xs := r) fun y hy => h y (by simp [hy]);have hx := h x (by simp);refine ⟨by simp [aG,hl,hx,bX]; omega,fun p c hc => ?_⟩;rw [aG] at hc;by_cases hp : p < x.cells.length
   ·rw [ak hp] at hc;exact ⟨0,x,p,rfl,hc,by omega⟩
   ·rw [aN (by omega)] at hc;obtain ⟨i,y,j,h1,h2,h3⟩ := hm _ c hc;exact ⟨i + 1,y,j,by simpa using h1,h2,by rw [bX]; omega⟩
theorem wZ (hh : b8 X φ w H) {k m : Nat} {x : AV} {news : List AV} {v : Value} (h : jo H k x = some (news,m)) (r : bR (Rd X φ w) φ x v) :
  ∃ ao cap vs,v = .slice ao m cap /\ vs.length = m * k /\ Cs X φ w news vs /\ (∀ ad,ao = some ad -> ∀ (j : Nat) (u : Value),vs[j]? = some u -> w.cell? (ad.add j) = some u) /\ (ao = none -> m = 0) := by
 have fin : ∀ {ad : Addr} {cap : Nat} {cs : List AV},Lv X φ w cs ad -> cs.length = m * k -> cs = news -> v = .slice (some ad) m cap ->
   ∃ ao cap vs,v = .slice ao m cap /\ vs.length = m * k /\ Cs X φ w news vs /\ (∀ ad,ao = some ad -> ∀ (j : Nat) (u : Value),vs[j]? = some u -> w.cell? (ad.add j) = some u) /\ (ao = none -> m = 0) := by
  intro ad cap cs hp hl hn hv;obtain ⟨vs,h1,h2,h3⟩ := hp.values cs.length (ba _);subst hn;refine ⟨some ad,cap,vs,hv,by omega,⟨h1.symm,fun i c u hc hu => h3 i c u (by simpa using hc) hu⟩,fun ad' h => ?_,fun h => by cases h⟩;cases h;exact h2
 cases x <;> simp only [jo] at h <;> try (cases h; done)
 ·simp at h;obtain ⟨rfl,rfl⟩ := h;cases r;exact ⟨none,0,[],rfl,by simp,⟨rfl,fun i c u hc => by simp at hc⟩,(fun ad h => by cases h),fun _ => rfl⟩
 ·rename_i k' xs;split at h
  ·rename_i hk;subst hk;simp at h;obtain ⟨rfl,rfl⟩ := h;cases r with
   | ub _ _ _ ad n cap u hn jW hkc hur hr =>
     obtain ⟨hl,hm⟩ := iR hkc;subst hn;refine fin (ad := ad) (cap := cap) (fun p c hc => ?_) hl rfl rfl;obtain ⟨i,y,j,h1,h2,rfl⟩ := hm p c hc;exact ⟨u i j,(hur i j y c h1 h2).2.2,(hr i j y c h1 h2).Iy φ⟩
   | kL => exact ⟨none,0,[],rfl,by simp,⟨rfl,fun i c u hc => by simp [aG] at hc⟩,(fun ad h => by cases h),fun _ => rfl⟩
  ·cases h
 ·rename_i k' b off len;split at h
  case h_2 => cases h
  rename_i cs dx;split at h
  case isFalse => cases h
  rename_i hc;obtain ⟨rfl,nT⟩ := hc;simp at h;obtain ⟨rfl,rfl⟩ := h;cases r with
  | sl _ _ _ _ _ ad cap hb hc hp =>
    obtain ⟨g,sz,arr,e,h1,h2,h3,h4,h5,h6⟩ := hh.at dx;by_cases h0 : len = 0
    ·subst h0;exact ⟨some ad,cap,[],rfl,by simp,⟨by simp,fun i c u hc => by simp at hc⟩,(fun _ _ j u hu => by simp at hu),(fun h => by cases h)⟩
    ·obtain rfl := (hp g sz h1).1 (by omega);refine fin (ad := ⟨g,off,none⟩) (cap := cap) (cs := (cs.drop off).take (len * k')) (fun p c hc => ?_) (by simp; omega) rfl rfl;rw [bB] at hc;split at hc
     ·rw [aS] at hc;obtain ⟨u,hu,r⟩ := h6 _ _ hc;exact ⟨u,by rw [Addr.jd,iK h2]; exact hu,r⟩
     ·cases hc

theorem Aw {t ty e e2 : TypeId} {i : TypeInfo} (ht : P.underlying t = some (.slice e)) (hi : P.info? e = some i)
  {g OI sCap : Nat} {cur : Array Value} (hg : w.heap[g]? = some (.cells cur e2 (0,0)))
  {a : Addr} {m c : Nat} {news : List Value} (hl : news.length = m * i.size) (agG : ∀ (j : Nat) (u : Value),news[j]? = some u -> w.cell? (a.add j) = some u) (h1 : ∀ u ∈ news,u.oneCell' = true)
  (adm : OI + m <= sCap) (nT : OI * i.size + news.length <= cur.size) :
  (Builtin.append_ #[t,t] ty #[.slice (some ⟨g,0,none⟩) OI sCap,.slice (some a) m c]).run P w =
   .ok (.slice (some ⟨g,0,none⟩) (OI + m) sCap) (w.setRow g (cur.toList.take (OI * i.size) ++ news ++ cur.toList.drop (OI * i.size + news.length)).toArray) := by
 have hf := run_firstCells_some (P := P) w i.size m a m c news hl agG;have sa := run_storeCells_at P g (OI * i.size) e2 news 0 cur w hg (by simpa using nT) h1;simp only [xn] at sa;simp [Builtin.append_,run_underlying ht,sizeOf,typeInfo,hi,Builtin.lenOf,adm,hf,Addr.add_lit,sa]
theorem od {t ty e : TypeId} {i : TypeInfo} (hu : P.underlying t = some (.slice e)) (hi : P.info? e = some i) {base ao : Option Addr} {n cap c : Nat} (h : n <= cap) :
  (Builtin.append_ #[t,t] ty #[.slice base n cap,.slice ao 0 c]).run P w = .ok (.slice base n cap) w := by
 cases base <;> cases ao <;> simp [Builtin.append_,run_underlying hu,sizeOf,uj hi,Builtin.lenOf,h,Builtin.firstCells,loadCells,loadCellsFrom,storeCells]
theorem ae5 {ca : Call} {x y : Operand} {t : TypeId} {k : Nat} {x' y' : E} {v : AV} {H' : Heap} {fl : Fp} {call : Nat -> List AV -> Heap -> Option (AV × Heap)} (eK : o.op = .call ca) (Hk : ca.callee = .builtin .append) (my : ca.args = #[x,y]) (Lr : ca.argTypes = #[t,t])
  (hh : b8 X φ w H) (rx : bR (Rd X φ w) φ (ev c env x') (a.eval x)) (ry : bR (Rd X φ w) φ (ev c env y') (a.eval y)) (hk : jc P t k = true) (hs : fc c call env H (.app k x' y') = some (v,H',fl)) : Ok P X φ w o a v H' := by
 obtain ⟨e,i,z,hu,hi,wF,hk0,hby,Ni,N7⟩ := jj hk
 have fin : ∀ {p q v' : Value} {w' : World} {φ' : dq},a.eval x = p -> a.eval y = q -> (Builtin.append_ #[t,t] o.type #[p,q]).run P w = .ok v' w' -> bR (Rd X φ' w') φ' v v' -> b8 X φ' w' H' -> eZ φ w φ' w' -> Ok P X φ w o a v H' := by
  intro p q v' w' φ' hp hq hr r h k;refine Ok.value ?_ r h k;simp only [execOp,eK,resolve,Hk,my,Lr,invoke,builtin,List.map_toArray,dN,DB,hp,hq,Sem.run_bind,Sem.run_pure,Result.andThen_ok,hr]
 simp only [fc] at hs;split at hs
 case h_2 => cases hs
 rename_i news m hsc;obtain ⟨ao,Qg,vs,hy,YO,KW,hvc,Tr⟩ := wZ hh hsc ry;have hL : kR = 4294967296 := rfl;split at hs
 ·rename_i Ds;rw [Ds] at rx;generalize hx : a.eval x = ax at rx;cases rx;by_cases hm : m = 0
  ·subst hm;simp at hs;obtain ⟨rfl,rfl,rfl⟩ := hs;exact fin hx hy (od hu hi (ba 0)) (.dn _) hh (.refl _ _)
  ·rw [if_neg hm] at hs;split at hs
   case isFalse => cases hs
   rename_i hc;obtain ⟨hlim,wE⟩ := hc;simp at hs;obtain ⟨rfl,rfl,rfl⟩ := hs;cases ao with
   | none => exact absurd (Tr rfl) hm
   | some ad =>
     have hmb : m * i.bytes <= 4294967296 * 1024 := Nat.mul_le_mul (by omega) hby;have hr := run_append_nil (P := P) w t o.type e i z hu hi Ni ad m Qg vs (by rw [YO,wF]) (hvc ad rfl) (by omega) (by omega) (by omega);have hge := grownCap_ge w m 0 e
     have oS : (vs.toArray ++ Builtin.zeroCells z.cells (grownCap w m 0 e - m)).size = grownCap w m 0 e * k := by
      simp only [VD,q9,size_zeroCells,N7,YO,<- bX]; congr 1; omega
     obtain ⟨q1,q2⟩ := r9 hh (w1 := w.drew) (arr := vs.toArray ++ Builtin.zeroCells z.cells (grownCap w m 0 e - m)) (e := e) (cs := news) rfl rfl rfl rfl
      (by rw [oS,KW.1,YO]; exact bG _ hge)
      (KW.at fun j u hj => by rw [qL (by simpa using aq hj)]; simpa using hj)
     exact fin hx hy hr (KD hh.len hge (by rw [oS]; exact ba _)) q1 q2
 ·rename_i k' b n Ds;split at hs
  case h_2 => cases hs
  rename_i cs dx;split at hs
  case isFalse => cases hs
  rename_i hc;obtain ⟨rfl,hnk,hlim,wE⟩ := hc;simp at hs;obtain ⟨rfl,rfl,rfl⟩ := hs;rw [Ds] at rx;generalize hx : a.eval x = ax at rx;cases rx with
  | sl _ _ _ _ _ ad cap hb jW hp =>
    obtain ⟨g,sz,arr,e2,lA,hg,oS,hle,hX,hm6⟩ := hh.at dx;obtain ⟨Nr,adm⟩ := hp g sz lA
    have hold : Cs X φ w (cs.take (n * k')) (arr.toList.take (n * k')) := by
     refine ⟨by simp; omega,fun j x u hx hu => ?_⟩;have hj : j < n * k' := by have := aq hx; simp at this; omega
     rw [aQ hj] at hx hu;obtain ⟨u',h1,h2⟩ := hm6 j x hx;simp at hu;rw [h1] at hu;simp at hu;subst hu;exact h2
    have kG := hold.append KW;have IV : (arr.toList.take (n * k')).length = n * k' := by simp; omega
    have hlen : (n : Nat) * k' + m * k' = (n + m) * k' := by rw [bX]
    by_cases hm : m = 0
    ·subst hm;have Lq : vs = [] := di (by omega);subst Lq
     obtain ⟨q1,q2⟩ := hh.move (cs' := cs.take (n * k') ++ news) (arr' := arr) (w' := w) lA hg oS rfl (by rw [setRow_self w g arr e2 _ hg]) hX
      (by rw [kG.1]; simp; omega) (kG.at fun j u hj => by
       rw [List.append_nil] at hj;have hj' : j < n * k' := by have := aq hj; omega
       rw [aQ hj'] at hj;simpa using hj)
     refine fin hx hy (od hu hi jW) ?_ q1 q2;refine .sl _ _ _ _ _ _ _ (by simp [hh.len]) jW fun g' nC Za => ?_;rw [aN (by simp [hh.len])] at Za;simp [hh.len] at Za;obtain ⟨rfl,rfl⟩ := Za;exact ⟨Nr,by omega⟩
    ·cases ao with
     | none => exact absurd (Tr rfl) hm
     | some ady =>
       have h1c := KW.sQ wE;by_cases PK : n + m <= cap
       ·obtain rfl := Nr (by omega)
        have nT : n * i.size + vs.length <= arr.size := by
         rw [wF,YO,hlen];have := bG k' PK;omega
        have hr := Aw (P := P) (ty := o.type) (c := Qg) hu hi hg (by rw [YO,wF]) (hvc ady rfl) h1c PK nT;rw [wF] at hr nT
        have zU : (arr.toList.take (n * k') ++ vs ++ arr.toList.drop (n * k' + vs.length)).toArray.size = arr.size := by
         simp only [q9,cM,bu,dK,pf]; omega
        obtain ⟨q1,q2⟩ := hh.move (cs' := cs.take (n * k') ++ news) (arr' := (arr.toList.take (n * k') ++ vs ++ arr.toList.drop (n * k' + vs.length)).toArray) lA hg oS zU rfl hX
         (by rw [kG.1,zU]; simp; omega) (kG.at fun j u hj => by
          simp only [vW];rw [ak (aq hj)];exact hj)
        refine fin hx hy hr (SX (by simp [hh.len]) PK (by omega)) q1 q2
       ·have holds : ∀ (j : Nat) (u : Value),(arr.toList.take (n * k'))[j]? = some u -> w.cell? (ad.add j) = some u := by
         intro j u hj;have hj' : j < n * k' := by have := aq hj; omega
         have hn0 : 0 < n := by
          rcases Nat.eq_zero_or_pos n with h | h
          ·subst h; simp at hj'
          ·exact h
         obtain rfl := Nr (by omega);rw [Addr.jd,iK hg];rw [aQ hj'] at hj;simpa using hj
        have hmb : (n + m) * i.bytes <= 4294967296 * 1024 := Nat.mul_le_mul (by omega) hby
        have hr := run_append_grow (P := P) w t o.type e i z hu hi Ni ad n cap (arr.toList.take (n * k')) (by rw [IV,wF]) holds ady m Qg vs (by rw [YO,wF]) (hvc ady rfl) (by omega) (by omega)
         (growslice_fits (by omega) (by omega))
        have hge := grownCap_ge w (n + m) cap e
        have hsz2 : ((arr.toList.take (n * k')).toArray ++ vs.toArray ++ Builtin.zeroCells z.cells (grownCap w (n + m) cap e - (n + m))).size = grownCap w (n + m) cap e * k' := by
         simp only [VD,q9,size_zeroCells,N7,YO,IV,<- bX]; congr 1; omega
        obtain ⟨k1,k2⟩ := hh.YD b;have IW : Cs X (φ.set b none) w (cs.take (n * k') ++ news) (arr.toList.take (n * k') ++ vs) := ⟨kG.1,fun j x u hx hu => k2.rep (kG.2 j x u hx hu)⟩
        obtain ⟨q1,q2⟩ := r9 k1 (w1 := w.drew) (arr := (arr.toList.take (n * k')).toArray ++ vs.toArray ++ Builtin.zeroCells z.cells (grownCap w (n + m) cap e - (n + m))) (e := e) (cs := cs.take (n * k') ++ news) rfl rfl rfl rfl
         (by rw [hsz2,kG.1,cM,IV,YO,hlen]; exact bG _ hge)
         (IW.at fun j u hj => by
          rw [qL (by simpa using aq hj)];have : ((arr.toList.take (n * k')).toArray ++ vs.toArray) = (arr.toList.take (n * k') ++ vs).toArray := by simp
          rw [this];simpa using hj)
        refine fin hx hy hr ?_ q1 (k2.trans q2);exact SX (by simp [hh.len]) hge (by rw [hsz2]; exact ba _)
 ·cases hs

theorem aa4 {ca : Call} {x y : Operand} {t t' : TypeId} {k : Nat} {x' y' : E} {v : AV} {H' : Heap} {fl : Fp} {call : Nat -> List AV -> Heap -> Option (AV × Heap)} (eK : o.op = .call ca) (Hk : ca.callee = .builtin .copy) (my : ca.args = #[x,y]) (Lr : ca.argTypes = #[t,t'])
  (hh : b8 X φ w H) (rx : bR (Rd X φ w) φ (ev c env x') (a.eval x)) (ry : bR (Rd X φ w) φ (ev c env y') (a.eval y)) (hk : jc P t k = true) (hs : fc c call env H (.copy k x' y') = some (v,H',fl)) : Ok P X φ w o a v H' := by
 obtain ⟨e,i,z,hu,hi,wF,hk0,hby,Ni,N7⟩ := jj hk
 have fin : ∀ {p q v' : Value} {w' : World} {φ' : dq},a.eval x = p -> a.eval y = q -> (Builtin.copy_ #[t,t'] o.type #[p,q]).run P w = .ok v' w' -> bR (Rd X φ' w') φ' v v' -> b8 X φ' w' H' -> eZ φ w φ' w' -> Ok P X φ w o a v H' := by
  intro p q v' w' φ' hp hq hr r h k;refine Ok.value ?_ r h k;simp only [execOp,eK,resolve,Hk,my,Lr,invoke,builtin,List.map_toArray,dN,DB,hp,hq,Sem.run_bind,Sem.run_pure,Result.andThen_ok,hr]
 simp only [fc] at hs;split at hs
 case h_2 => cases hs
 rename_i news m hsc;obtain ⟨ao,Qg,vs,hy,YO,KW,hvc,Tr⟩ := wZ hh hsc ry
 have zero : ∀ {base : Option Addr} {n cap : Nat},Nat.min m n = 0 -> (Builtin.copy_ #[t,t'] o.type #[.slice base n cap,.slice ao m Qg]).run P w = .ok (.int .i64 0) w := by
  intro base n cap h0;cases base <;> cases ao <;> simp [Builtin.copy_,run_underlying hu,Builtin.lenOf,sizeOf,uj hi,h0,Builtin.firstCells,loadCells,loadCellsFrom,storeCells,goInt]
 split at hs
 ·rename_i Ds;rw [Ds] at rx;generalize hx : a.eval x = ax at rx;cases rx;simp at hs;obtain ⟨rfl,rfl,rfl⟩ := hs;exact fin hx hy (zero (Nat.min_zero m)) (.int _ _ _) hh (.refl _ _)
 ·rename_i k' b off n Ds;split at hs
  case h_2 => cases hs
  rename_i cs dx;split at hs
  case isFalse => cases hs
  rename_i hc;obtain ⟨rfl,nT,wE⟩ := hc;simp only [ai,aF] at hs;obtain ⟨rfl,rfl,rfl⟩ := hs;rw [Ds] at rx;generalize hx : a.eval x = ax at rx;cases rx with
  | sl _ _ _ _ _ ad cap hb jW hp =>
    obtain ⟨g,sz,arr,e2,lA,hg,oS,hle,hX,hm6⟩ := hh.at dx;by_cases h0 : min m n = 0
    ·have e0 : H.set b (some (jK cs off (news.take (min m n * k')))) = H := by
      have e1 : jK cs off (news.take (min m n * k')) = cs := by rw [h0]; simp [jK]
      rw [e1]
      have je : H[b]? = some (some cs) := by
       unfold aJ at dx;split at dx
       ·rename_i q hq;cases dx;exact hq
       ·cases dx
      apply dA;intro j;rw [bn];split
      ·rename_i ej;subst ej;rw [je];simp [aq je]
      ·rfl
     have h0' : Nat.min m n = 0 := h0;exact fin hx hy (zero h0') (by rw [h0]; exact .int _ _ _) (by rw [e0]; exact hh) (.refl _ _)
    ·obtain rfl := (hp g sz lA).1 (by omega);cases ao with
     | none => exact absurd (Tr rfl) (by omega)
     | some ady =>
       have rp : bR (Rd X φ w) φ (.ptr b off) (.pointer (some ⟨g,off,none⟩)) := .ptr _ _ _ _ hb fun g' nC Za => by
        rw [lA] at Za;simp at Za;rw [Za.1]
       have hle2 : min m n * k' <= m * k' := bG _ (Nat.min_le_left _ _);have hle3 : min m n * k' <= n * k' := bG _ (Nat.min_le_right _ _)
       have hcz : Cs X φ w (news.take (min m n * k')) (vs.take (min m n * k')) := by
        refine ⟨by simp [KW.1],fun j d u hd hu => ?_⟩;have hj : j < min m n * k' := by have := aq hd; rw [bu] at this; omega
        rw [aQ hj] at hd hu;exact KW.2 j d u hd hu
       have hnl : news.length = m * k' := by rw [KW.1,YO]
       obtain ⟨g',w',e1,sa,q1,q2⟩ := DC (P := P) hh dx rp hcz (fun u hu => KW.sQ wE u (List.mem_of_mem_take hu)) (by rw [bu]; omega);simp at e1;subst e1
       have hf := run_firstCells_some (P := P) w i.size (min m n) ady m Qg (vs.take (min m n * k')) (by rw [bu,YO,wF]; omega) (fun j u hj => by
        have hj' : j < min m n * k' := by have := aq hj; rw [bu] at this; omega
        rw [aQ hj'] at hj;exact hvc ady rfl j u hj)
       have YZ : Nat.min m n = min m n := rfl;refine fin hx hy (v' := .int .i64 ((min m n : Nat) : Int)) (w' := w') ?_ (.int _ _ _) q1 q2;have Zc : (Builtin.firstCells i.size (Nat.min m n) (.slice (some ady) m Qg)).run P w = .ok (vs.take (min m n * k')).toArray w := hf;simp [Builtin.copy_,run_underlying hu,Builtin.lenOf,sizeOf,uj hi,Zc,sa,goInt]
       try rfl
 ·cases hs

/-! Calls -/
def Ret (X : Nat -> Prop) (φ : dq) (w : World) (r : AV) (H' : Heap) (e : Ending) (w' : World) : Prop :=
 ∃ v' φ',e = .returned v' /\ bR (Rd X φ' w') φ' r v' /\ b8 X φ' w' H' /\ eZ φ w φ' w'
def BF (P : Program) (c : dR) (call : Nat -> List AV -> Heap -> Option (AV × Heap)) : Prop :=
 ∀ f m q,c.fn f = some (m,q) -> ∀ args H r H',call f args H = some (r,H') -> ∀ X φ w vargs,pY X φ w args vargs -> b8 X φ w H -> dH c X φ w -> Calls P f vargs w (Ret X φ w r H')

theorem b8.iO (h : b8 X φ w H) {g : Nat} (ho : bN φ g) : g < w.heap.size /\ ¬ X g := by
 obtain ⟨b,sz,hb⟩ := ho;obtain ⟨x,hx⟩ := bg (l := H) (i := b) (h.len ▸ aq hb);cases x with
 | none => rw [h.dead b hx] at hb; simp at hb
 | some cs =>
   obtain ⟨g',nC,arr,e,h1,h2,_,_,h5,_⟩ := h.live b cs hx;rw [h1] at hb;simp at hb;rw [<- hb.1];exact ⟨(dX.1 h2).1,h5⟩
theorem b8.empty (h : b8 X φ w H) : b8 (fun g => X g \/ bN φ g) [] w [] :=
 ⟨rfl,fun g hg => hg.elim (h.G7 g) (fun ho => (h.iO ho).1),fun b cs hb => by simp at hb,fun b hb => by simp at hb,fun b b' g sz nC h1 => by simp at h1⟩
theorem MO (hh : b8 X φ w H) {R : Addr -> Value -> Prop} (hR : ∀ a u,Rd X φ w a u -> R a u) {xs ys : List AV} {bs : List Nat} {n : Nat} {vs : Array Value} (hm : A7 (Bu H n) xs = some (ys,bs))
  (hb : ∀ b ∈ bs,∀ g sz : Nat,φ[b]? = some (some (g,sz)) -> ∀ o u,w.cell? ⟨g,o,none⟩ = some u -> R ⟨g,o,none⟩ u) (ha : pY X φ w xs vs) :
  ys.length = vs.size /\ ∀ (i : Nat) (c : AV) (v : Value),ys[i]? = some c -> vs[i]? = some v -> bR R [] c v := by
 obtain ⟨hl,U1⟩ := rQ hm;refine ⟨by rw [hl,ha.1],fun i c v hc hv => ?_⟩;obtain ⟨x,hx⟩ := bg (l := xs) (i := i) (by have := aq hc; omega);obtain ⟨y,b,e1,e2,e3⟩ := U1 i x hx;rw [e2] at hc;simp at hc;subst hc;exact Dw hh hR n x _ v b e1 (fun b' je => hb b' (e3 b' je)) (ha.2 i x v hx hv)

theorem AX {call : Nat -> List AV -> Heap -> Option (AV × Heap)} (ed : BF P c call) {f : Nat} {m : Md} {q : eB} (hf : c.fn f = some (m,q)) {args : List AV} {r r' : AV} {H1 : Heap} {bs : List Nat} (hr : call f args [] = some (r,H1)) (hz : Bu H1 Qo r = some (r',bs))
  (hh : b8 X φ w H) (hg : dH c X φ w) {vargs : Array Value} (ha : args.length = vargs.size /\ ∀ (i : Nat) (c : AV) (v : Value),args[i]? = some c -> vargs[i]? = some v -> bR (Rd X φ w) [] c v) :
  Calls P f vargs w (Ret X φ w r' H) := by
 have Bn : ∀ {w' : World} a u,Rd X φ w' a u -> Rd (fun g => X g \/ bN φ g) [] w' a u := fun a u ⟨h1,h2,h3⟩ => ⟨fun h => h.elim h1 h2,bN.nil _,h3⟩;have agP : ∀ {w' : World} a u,Rd (fun g => X g \/ bN φ g) [] w' a u -> Rd X φ w' a u := fun a u ⟨h1,_,h3⟩ => ⟨fun h => h1 (.inl h),fun h => h1 (.inr h),h3⟩;refine (ed f m q hf args [] r H1 hr (fun g => X g \/ bN φ g) [] w vargs ⟨ha.1,fun i x v hx hv => (ha.2 i x v hx hv).mono Bn (.refl _)⟩ hh.empty (fun g => (hg g).mono Bn (.refl _))).mono ?_;rintro e w1 ⟨v',n8,rfl,r1,h1,a1⟩;refine ⟨v',φ,rfl,?_,hh.of_same a1,.of_same a1⟩
 have C9 := Dw h1 (R := Rd (fun g => X g \/ bN φ g) [] w1) (fun a u ⟨p1,p2,p3⟩ => ⟨p1,bN.nil _,p3⟩) Qo r r' v' bs hz
  (fun b _ g sz hb o u hu => ⟨(h1.iO ⟨b,sz,hb⟩).2,bN.nil _,hu⟩) r1
 exact (C9.mono agP (.refl _)).Iy φ
theorem Jd {call : Nat -> List AV -> Heap -> Option (AV × Heap)} (ed : BF P c call) {f : Nat} {args : List AV} {r : AV} {H' : Heap} {fl : Fp} (hs : vE c call f args H = some (r,H',fl))
  (hh : b8 X φ w H) (hg : dH c X φ w) {vargs : Array Value} (ha : pY X φ w args vargs) : (∃ m q,c.fn f = some (m,q)) /\ Calls P f vargs w (Ret X φ w r H') := by
 unfold vE at hs;split at hs
 ·cases hs
 ·rename_i q hf;refine ⟨⟨_,_,hf⟩,?_⟩;split at hs
  case h_2 => cases hs
  rename_i r1 H1 hr;simp at hs;obtain ⟨rfl,rfl,rfl⟩ := hs;exact ed f _ q hf args H r1 H1 hr X φ w vargs ha hh hg
 ·rename_i q hf;refine ⟨⟨_,_,hf⟩,?_⟩;split at hs
  case h_2 => cases hs
  rename_i r1 H1 hr;split at hs
  case h_2 => cases hs
  rename_i r' bs hz;split at hs
  case isFalse => cases hs
  rename_i hc;obtain ⟨hle,hge,c6⟩ := hc;simp at hs;obtain ⟨rfl,rfl,rfl⟩ := hs;refine (ed f _ q hf args H r1 H1 hr X φ w vargs ha hh hg).mono ?_;rintro e w1 ⟨v',n8,rfl,r1,h1,a1⟩;have hlen := hh.len;refine ⟨v',n8.take φ.length,rfl,?_,by rw [hlen]; exact h1.take hle c6,a1.take⟩
  have Y5 : ∀ {n : Nat} {l : List Nat},TN n l = true -> ∀ b ∈ l,n <= b := by
   intro n l
   induction l with
   | nil => intro _ b hb; simp at hb
   | cons x r ih =>
     intro h b hb;simp only [TN,aa,decide_eq_true_eq] at h;rcases aX.1 hb with h' | h'
     ·subst h'; exact h.1
     ·exact ih h.2 b h'
  have C9 := Dw h1 (R := Rd X (n8.take φ.length) w1) QY Qo _ _ v' bs hz (fun b hb g sz lA o u hu => ?_) r1
  ·exact C9.Iy _
  ·refine ⟨(h1.iO ⟨b,sz,lA⟩).2,fun ⟨b',nC,je⟩ => ?_,hu⟩;rw [bB] at je;split at je
   ·rename_i bz;have := h1.inj b b' g sz nC lA je;have := Y5 hge b hb;omega
   ·cases je
 ·rename_i q hf;refine ⟨⟨_,_,hf⟩,?_⟩;split at hs
  ·rename_i sd;split at hs
   case h_2 => cases hs
   rename_i r1 H1 hr;split at hs
   case h_2 => cases hs
   rename_i r' bs hz;simp at hs;obtain ⟨rfl,rfl,rfl⟩ := hs;exact AX ed hf hr hz hh hg ⟨ha.1,fun i x v hx hv => (ha.2 i x v hx hv).dB (pA sd i x hx) []⟩
  ·split at hs
   case h_2 => cases hs
   rename_i qJ bs hm;split at hs
   case h_2 => cases hs
   rename_i r1 H1 hr;split at hs
   case h_2 => cases hs
   rename_i r' bs' hz;split at hs
   ·rename_i agJ;simp at hs;obtain ⟨rfl,rfl,rfl⟩ := hs;have hh0 : b8 X [] w [] := ⟨rfl,hh.G7,fun b cs hb => by simp at hb,fun b hb => by simp at hb,fun b b' g sz nC h1 => by simp at h1⟩;have Bn : ∀ {w' : World} a u,Rd X φ w' a u -> Rd X [] w' a u := fun a u ⟨h1,_,h3⟩ => ⟨h1,bN.nil _,h3⟩;have VK := MO hh (R := Rd X [] w) Bn hm (fun b _ g sz hb o u hu => ⟨(hh.iO ⟨b,sz,hb⟩).2,bN.nil _,hu⟩) ha;have hc := AX (X := X) (φ := []) (H := []) ed hf hr hz hh0 (fun g => (hg g).mono Bn (.refl _)) VK;refine hc.mono ?_;rintro e w1 ⟨v',n8,rfl,r1,h1,a1⟩;exact ⟨v',φ,rfl,r1.of_flat agJ _ _,hh.of_same a1,.of_same a1⟩
   ·simp at hs;obtain ⟨rfl,rfl,rfl⟩ := hs;obtain ⟨k1,k2⟩ := b8.kill bs hh
    have VK := MO hh (R := Rd X (M9 φ bs) w) k2.rd hm (fun b hb g sz lA o u hu => ⟨(hh.iO ⟨b,sz,lA⟩).2,fun ⟨b',nC,je⟩ => by
     obtain ⟨e1,e2⟩ := IK bs φ b' _ je;exact e2 (hh.inj b b' g sz nC lA e1 ▸ hb),hu⟩) ha
    have hc := AX ed hf hr hz k1 (hg.nI k2) VK;refine hc.mono ?_;rintro e w1 ⟨v',n8,rfl,r1,h1,a1⟩;exact ⟨v',n8,rfl,r1,h1,k2.trans a1⟩

theorem yO (c6 : NY P c) {f : Nat} {m : Md} {q : eB} (hf : c.fn f = some (m,q)) (vargs : Array Value) : (callFunc f vargs).run P w = .ok (.enter f vargs) w := by
 obtain ⟨fn,h1,h2⟩ := c6.fn f m q hf;simp only [chkF,aa,bD] at h2;obtain ⟨⟨⟨_,IU⟩,_⟩,rU⟩ := h2
 have hb : fn.body.isNone = false := by
  cases hfb : fn.body with
  | none => rw [hfb] at rU; cases rU
  | some b => rfl
 simp only [callFunc,Sem.run_bind,run_program,Result.andThen_ok,h1,IU,hb,bO,if_false,Sem.run_pure]
theorem Ok.call {f : Nat} {vargs : Array Value} {r : AV} {H' : Heap} (hr : (execOp a.eval o).run P w = .ok (.enter f vargs) w) (hc : Calls P f vargs w (Ret X φ w r H')) : Ok P X φ w o a r H' := by
 intro K Q hK;unfold Oper.wp;rw [hr,Oper.upon_enter];refine hc.mono ?_;rintro e w' ⟨v',φ',rfl,r1,h1,a1⟩;exact hK v' w' φ' r1 h1 a1
theorem aa5 {call : Nat -> List AV -> Heap -> Option (AV × Heap)} (c6 : NY P c) (ed : BF P c call) {ca : Call} {f : Nat} {ys : List E} {r : AV} {H' : Heap} {fl : Fp} (eK : o.op = .call ca) (Hk : ca.callee = .value (.func f))
  (hh : b8 X φ w H) (he : n7 X φ w env a.tmps) (hg : dH c X φ w) (my : jk ca.args.toList ys = true) (hs : fc c call env H (.call f ys) = some (r,H',fl)) : Ok P X φ w o a r H' := by
 obtain ⟨hl,hr⟩ := nz he hg my;obtain ⟨⟨m,q,hf⟩,hc⟩ := Jd (P := P) ed hs hh hg (vargs := ca.args.map a.eval) ⟨by simp [hl],fun i x v hx hv => hr i x v hx (by simpa using hv)⟩;refine Ok.call ?_ hc;simp only [execOp,eK,resolve,Hk,Act.eval,Deferred.ofValue,invoke,Sem.run_bind,Sem.run_pure,Result.andThen_ok,Array.empty_append,Array.append_empty];exact yO c6 hf _
theorem X4 {call : Nat -> List AV -> Heap -> Option (AV × Heap)} (c6 : NY P c) (ed : BF P c call) {ca : Call} {x : Operand} {y : E} {ys : List E} {r : AV} {H' : Heap} {fl : Fp} (eK : o.op = .call ca) (Hk : ca.callee = .value x)
  (hh : b8 X φ w H) (he : n7 X φ w env a.tmps) (hg : dH c X φ w) (hx : cZ x y = true) (my : jk ca.args.toList ys = true) (hs : fc c call env H (.jm y ys) = some (r,H',fl)) : Ok P X φ w o a r H' := by
 obtain ⟨hl,hr⟩ := nz he hg my;have rx := bQ (a := a) he hg hx;simp only [fc] at hs;split at hs
 case h_2 => cases hs
 rename_i f as bs hy;rw [hy] at rx;generalize Ob : a.eval x = ax at rx;cases rx with
 | func _ _ _ va _ vb CG CF hra hrb =>
   have kG : pY X φ w (as ++ Dx c env ys ++ bs) (va ++ ca.args.map a.eval ++ vb) := by
    have c1 : Cs X φ w as va.toList := ⟨by simpa using CG,fun i x v hx hv => hra i x v hx (by simpa using hv)⟩;have c2 : Cs X φ w (Dx c env ys) (ca.args.map a.eval).toList := ⟨by simp [hl],fun i x v hx hv => hr i x v hx (by simpa using hv)⟩;have c3 : Cs X φ w bs vb.toList := ⟨by simpa using CF,fun i x v hx hv => hrb i x v hx (by simpa using hv)⟩;have c4 := (c1.append c2).append c3
    exact ⟨by have := c4.1; simp at this ⊢; omega,fun i x v hx hv => c4.2 i x v hx (by
     have : (va ++ ca.args.map a.eval ++ vb).toList = va.toList ++ (ca.args.map a.eval).toList ++ vb.toList := by simp
     rw [<- this,jS]; exact hv)⟩
   obtain ⟨⟨m,q,hf⟩,hc⟩ := Jd (P := P) ed hs hh hg kG;refine Ok.call ?_ hc;simp only [execOp,eK,resolve,Hk,Ob,Deferred.ofValue,invoke,Sem.run_bind,Sem.run_pure,Result.andThen_ok];exact yO c6 hf _
end
end Go.Am

/- Every operation; regions in the order of the text, and regions that draw their order. -/
namespace Go.Am
section
variable {P : Program} {c : dR} {X : Nat -> Prop} {φ : dq} {w : World} {env : Env} {H : Heap} {a : Act} {o : Oper}

theorem agw {call : Nat -> List AV -> Heap -> Option (AV × Heap)} (c6 : NY P c) (ed : BF P c call) (he : n7 X φ w env a.tmps) (hg : dH c X φ w) (hh : b8 X φ w H) {kd : Kd} {v : AV} {H' : Heap} {fl : Fp}
  (hk : cN P o.op kd = true) (hs : fc c call env H kd = some (v,H',fl)) : Ok P X φ w o a v H' := by
 generalize eK : o.op = op at hk;unfold cN at hk;split at hk
 case h_1 =>
  simp [fc] at hs; obtain ⟨rfl,rfl,_⟩ := hs;exact Ok.quiet (by simp [execOp,eK]) (bQ he hg hk) hh
 case h_2 =>
  simp [fc] at hs; obtain ⟨rfl,rfl,_⟩ := hs;exact Ok.quiet (by simp [execOp,eK]) (bQ he hg hk) hh
 case h_3 =>
  simp only [aa] at hk;simp only [fc] at hs;split at hs
  case h_2 => cases hs
  rename_i t ht;simp at hs; obtain ⟨rfl,rfl,_⟩ := hs;have r := bQ (a := a) he hg hk.1.1;rw [ht] at r;exact aa0 eK hh r (bQ he hg hk.1.2) (bQ he hg hk.2)
 case h_4 =>
  simp [fc] at hs; obtain ⟨rfl,rfl,_⟩ := hs;exact Pd eK hh hk
 case h_5 =>
  simp only [fc] at hs;split at hs
  case isFalse => cases hs
  rename_i hl;simp at hs; obtain ⟨rfl,rfl,_⟩ := hs;exact ae2 eK hh (bQ he hg hk) hl
 case h_6 =>
  simp only [aa] at hk;simp only [fc] at hs;split at hs
  case h_2 => cases hs
  rename_i cs hf;simp at hs; obtain ⟨rfl,rfl,_⟩ := hs;exact X6 eK hh he hg hk.1 hk.2 hf
 case h_7 =>
  simp only [aa,decide_eq_true_eq] at hk;obtain ⟨⟨⟨⟨h1,h2⟩,h3⟩,h4⟩,h5⟩ := hk;subst h1;simp only [fc] at hs;split at hs
  case h_2 => cases hs
  rename_i cs hf;split at hs
  case isFalse => cases hs
  simp at hs; obtain ⟨rfl,rfl,_⟩ := hs;exact Uy eK hh he hg h2 h3 h4 h5 hf
 case h_8 =>
  simp only [aa,decide_eq_true_eq] at hk;exact agz eK hh (bQ he hg hk.2) hk.1 hs
 case h_9 =>
  simp only [aa] at hk;simp only [fc] at hs;split at hs
  case h_2 => cases hs
  rename_i b off hb;split at hs
  case h_2 => cases hs
  rename_i cs dx;split at hs
  case isFalse => cases hs
  rename_i hc;simp at hs; obtain ⟨rfl,rfl,_⟩ := hs;have r := bQ (a := a) he hg hk.1.2;rw [hb] at r;exact XX eK hh dx hk.1.1 r (bQ he hg hk.2) hc.1 hc.2.1 hc.2.2
 case h_10 => exact XZ eK hh (bQ he hg hk) hs
 case h_11 =>
  simp only [aa,decide_eq_true_eq] at hk;obtain ⟨⟨h1,h2⟩,h3⟩ := hk;subst h1;simp only [fc] at hs;split at hs
  case h_2 => cases hs
  rename_i r hr;simp at hs; obtain ⟨rfl,rfl,_⟩ := hs;exact ae3 eK hh (bQ he hg h2) (bQ he hg h3) hr
 case h_12 =>
  simp only [aa] at hk;obtain ⟨⟨⟨h1,h2⟩,h3⟩,h4⟩ := hk;simp only [fc] at hs;split at hs
  case h_2 => cases hs
  rename_i e hr;simp at hs; obtain ⟨rfl,rfl,_⟩ := hs;have := ok_eq eK hh h1 h2 (bQ he hg h3) (bQ he hg h4) hr;simpa using this
 case h_13 =>
  simp only [aa,decide_eq_true_eq] at hk;obtain ⟨h1,h2⟩ := hk;subst h1;simp only [fc] at hs;split at hs
  case h_2 => cases hs
  rename_i r hr;simp at hs; obtain ⟨rfl,rfl,_⟩ := hs;exact agy eK hh (bQ he hg h2) hr
 case h_14 =>
  simp only [aa] at hk;obtain ⟨⟨h1,h2⟩,h3⟩ := hk;split at h2
  case h_2 => cases h2
  rename_i k' hu;simp at h2;subst h2;simp only [fc] at hs;split at hs
  case h_2 => cases hs
  rename_i k2 n hn;simp at hs; obtain ⟨rfl,rfl,_⟩ := hs;have r := bQ (a := a) he hg h3;rw [hn] at r;exact ae0 eK hh h1 hu r
 case h_15 =>
  simp only [aa,decide_eq_true_eq] at hk;obtain ⟨⟨h1,h2⟩,h3⟩ := hk;subst h1;simp [fc] at hs; obtain ⟨rfl,rfl,_⟩ := hs;exact aeO eK hh he hg h2 h3
 case h_16 =>
  simp only [aa] at hk;obtain ⟨⟨⟨h1,h2⟩,h3⟩,h4⟩ := hk;simp only [fc] at hs;split at hs
  case h_2 => cases hs
  rename_i k1 l k2 cp hl hcp;split at hs
  case isFalse => cases hs
  rename_i hc;simp at hs; obtain ⟨rfl,rfl,_⟩ := hs;have r1 := bQ (a := a) he hg h3;have r2 := bQ (a := a) he hg h4;rw [hl] at r1;rw [hcp] at r2;exact aeN eK hh h1 h2 r1 r2 hc.1 hc.2.1 hc.2.2
 case h_17 =>
  simp only [aa] at hk;obtain ⟨⟨⟨h1,h2⟩,h3⟩,h4⟩ := hk;exact aeL eK hh he hg h1 h2 h3 h4 hs
 case h_18 =>
  simp only [aa] at hk;exact aeX eK hh (bQ he hg hk.2) hk.1 hs
 case h_19 =>
  simp only [aa] at hk;exact aeW eK hh (bQ he hg hk.2) hk.1 hs
 case h_20 =>
  simp only [aa] at hk;exact aeU eK hh (bQ he hg hk.1.2) (bQ he hg hk.2) hk.1.1 hs
 case h_21 =>
  simp only [aa] at hk;exact aeT eK hh (bQ he hg hk.1.2) (bQ he hg hk.2) hk.1.1 hs
 case h_22 =>
  simp only [aa] at hk;exact agA eK hh (bQ he hg hk.1.2) (bQ he hg hk.2) hk.1.1 hs
 case h_23 =>
  simp only [aa,decide_eq_true_eq] at hk;exact aeS eK hh (bQ he hg hk.2) hk.1.1 hk.1.2 hs
 case h_24 =>
  rename_i args argTypes k zs x;split at hk
  case h_2 => cases hk
  rename_i x' t h1 h2;simp only [aa] at hk;exact ae1 (x := x') (t := t) eK rfl (fC.1 h1) (fC.1 h2) hh (bQ he hg hk.2) hk.1.1 hk.1.2 hs
 case h_25 =>
  simp only [aa,decide_eq_true_eq] at hk;obtain ⟨h1,h2⟩ := hk;subst h1;simp only [fc] at hs;split at hs
  case h_2 => cases hs
  rename_i vs hv;split at hs
  case h_2 => cases hs
  rename_i u hu;simp at hs; obtain ⟨rfl,rfl,_⟩ := hs;have r := bQ (a := a) he hg h2;rw [hv] at r;exact aeY eK hh r hu
 case h_26 =>
  simp only [aa,decide_eq_true_eq] at hk;obtain ⟨h1,h2⟩ := hk;subst h1;exact aa5 c6 ed eK rfl hh he hg h2 hs
 case h_27 =>
  simp only [aa] at hk;exact X4 c6 ed eK rfl hh he hg hk.1 hk.2 hs
 case h_28 =>
  rename_i args argTypes y;split at hk
  case h_2 => cases hk
  rename_i x t h1 h2;simp only [aa] at hk;exact aeQ (x := x) (t := t) eK rfl (fC.1 h1) (fC.1 h2) hh (bQ he hg hk.2) hk.1 hs
 case h_29 =>
  rename_i args argTypes k x y;split at hk
  case h_2 => cases hk
  rename_i x' y' t t' h1 h2;simp only [aa,decide_eq_true_eq] at hk;obtain ⟨⟨⟨h3,h4⟩,h5⟩,h6⟩ := hk;subst h3;exact ae5 (x := x') (y := y') (t := t) eK rfl (fC.1 h1) (fC.1 h2) hh (bQ he hg h5) (bQ he hg h6) h4 hs
 case h_30 =>
  simp only [fc] at hs;split at hs
  case h_2 => cases hs
  rename_i r hr;simp at hs; obtain ⟨rfl,rfl,_⟩ := hs;exact X0 (mx := false) eK rfl hh he hg hk hr
 case h_31 =>
  simp only [fc] at hs;split at hs
  case h_2 => cases hs
  rename_i r hr;simp at hs; obtain ⟨rfl,rfl,_⟩ := hs;exact X0 (mx := true) eK rfl hh he hg hk hr
 case h_32 =>
  simp only [aa] at hk;exact ae4 eK hh he hg hk.2.2 (bQ he hg hk.2.1) hk.1 hs
 case h_33 =>
  rename_i args argTypes k x y;split at hk
  case h_2 => cases hk
  rename_i x' y' t t' h1 h2;simp only [aa] at hk;exact aa4 (x := x') (y := y') (t := t) (t' := t') eK rfl (fC.1 h1) (fC.1 h2) hh (bQ he hg hk.1.2) (bQ he hg hk.2) hk.1.1 hs
 case h_34 => cases hs
 case h_35 => cases hk

structure SRel (X : Nat -> Prop) (φ : dq) (w : World) (s : St) (a : Act) (N : Nat) : Prop where
 env : n7 X φ w s.env a.tmps
 heap : b8 X φ w s.H
 defers : a.defers = []
 size : a.tmps.size = N

theorem XM (a : Act) (d : Option Nat) (v : Value) : (a.put d v).tmps.size = a.tmps.size /\ (a.put d v).defers = a.defers := by cases d <;> simp [Act.put]
theorem SRel.put {s : St} {N : Nat} {φ' : dq} {w' : World} {d : Option Nat} {v : AV} {v' : Value} {H' : Heap} (h : SRel X φ w s a N) (hd : ∀ i,d = some i -> i < N) (r : bR (Rd X φ' w') φ' v v') (hh : b8 X φ' w' H') (k : eZ φ w φ' w') :
  SRel X φ' w' ⟨rJ s.env d v,H'⟩ (a.put d v') N := by
 obtain ⟨h1,h2⟩ := XM a d v';refine ⟨?_,hh,by rw [h2]; exact h.defers,by rw [h1]; exact h.size⟩;cases d with
 | none => exact h.env.nI k
 | some i => exact (h.env.nI k).put (by rw [h.size]; exact hd i rfl) r
theorem U7 {ts : Array Value} {g : Nat} {b : Bool} (h : ts.getD g undef = .bool b) : ts[g]? = some (.bool b) := by
 rw [aZ] at h;cases hg : ts[g]? with
 | none => rw [hg] at h; simp [undef] at h
 | some v => rw [hg] at h; simp at h; rw [h]
theorem PV {ts : Array Value} {g : Nat} (h : ts.getD g undef = .tuple #[]) : ts[g]? = none \/ ts[g]? = some (.tuple #[]) := by
 rw [aZ] at h;cases hg : ts[g]? with
 | none => exact .inl rfl
 | some v => rw [hg] at h; simp at h; rw [h]; exact .inr rfl

end
end Go.Am

/- Regions that draw their order: the order makes no difference. -/
namespace Go.Am
section
variable {P : Program} {c : dR} {call : Nat -> List AV -> Heap -> Option (AV × Heap)}

theorem jL {e1 e2 : Env} {x : E} (h : ∀ i ∈ x.slot,get e1 i = get e2 i) : ev c e1 x = ev c e2 x := by
 cases x with
 | t i => exact h i (by simp [E.slot])
 | k x => rfl
 | g i => rfl
theorem ny {e1 e2 : Env} : ∀ {xs : List E},(∀ i ∈ mM xs,get e1 i = get e2 i) -> Dx c e1 xs = Dx c e2 xs
 | [],_ => rfl
 | x :: r,h => by
   simp only [mM,aD] at h;simp only [Dx];rw [jL fun i hi => h i (.inl hi),ny fun i hi => h i (.inr hi)]
theorem vC {e1 e2 : Env} : ∀ {ps : List (Nat × Nat × E)} {zs : List AV},(∀ i ∈ py ps,get e1 i = get e2 i) -> nW c e1 zs ps = nW c e2 zs ps
 | [],_,_ => by simp [nW]
 | (o,s,x) :: r,zs,h => by
   simp only [py,aD] at h;simp only [nW];rw [jL fun i hi => h i (.inl hi)];split
   ·exact vC fun i hi => h i (.inr hi)
   ·rfl
theorem yA {e1 e2 : Env} {d m : Nat} {x : Option E} (h : ∀ i ∈ HK x,get e1 i = get e2 i) : Ag c e1 d m x = Ag c e2 d m x := by
 cases x with
 | none => rfl
 | some x => simp only [Ag]; rw [jL h]
theorem Jw {e1 e2 : Env} {H : Heap} {kd : Kd} (h : ∀ i ∈ kd.reads,get e1 i = get e2 i) : fc c call e1 H kd = fc c call e2 H kd := by
 cases kd <;> simp only [Kd.reads,aD] at h <;> simp only [fc]
 case pick x y z => rw [jL fun i hi => h i (.inl hi),jL fun i hi => h i (.inr (.inl hi)),jL fun i hi => h i (.inr (.inr hi))]
 case build => rw [vC h]
 case c5 => rw [vC h]
 case GY k x lo hi => rw [jL fun i hi => h i (.inl hi)]; simp only [yA (c := c) fun i hi => h i (.inr (.inl hi)),yA (c := c) fun i hi => h i (.inr (.inr hi))]
 case Hw n x u => simp only [jL (c := c) fun i hi => h i (.inl hi),yA (c := c) fun i hi => h i (.inr hi)]
 case call => rw [ny h]
 case min => rw [ny h]
 case max => rw [ny h]
 case MK => rw [ny fun i hi => h i (.inl hi),ny fun i hi => h i (.inr hi)]
 case jm => rw [jL fun i hi => h i (.inl hi),ny fun i hi => h i (.inr hi)]
 all_goals first
  | rfl
  | rw [jL h]
  | rw [jL fun i hi => h i (.inl hi),jL fun i hi => h i (.inr hi)]
theorem GB {H : Heap} {b b' : Nat} {x : TQ} (h : b ≠ b') : aJ (H.set b x) b' = aJ H b' := by
 unfold aJ; rw [c9 h]
theorem GD {H T : Heap} {b : Nat} (h : b < H.length) : aJ (H ++ T) b = aJ H b := by
 unfold aJ; rw [ak h]
def BE (fp : Fp) (H H' : Heap) (v : AV) (f : Heap -> Option (AV × Heap × Fp)) : Prop :=
 (fp = .no -> H' = H /\ ∀ H2,f H2 = some (v,H2,.no)) /\ (∀ b,fp = .rd b -> H' = H /\ ∀ H2,aJ H2 b = aJ H b -> f H2 = some (v,H2,.rd b)) /\ (fp = .ra -> H' = H) /\
 (∀ n bs,fp = .wr n bs -> ∀ b,b < n -> b ∉ bs -> aJ H' b = aJ H b)
theorem BE.wr0 {H H' : Heap} {v : AV} {f : Heap -> Option (AV × Heap × Fp)} : BE (.wr 0 []) H H' v f :=
 ⟨(fun h => by cases h),(fun b h => by cases h),(fun h => by cases h),fun n bs h b hb => by cases h; omega⟩
theorem BE.no {H : Heap} {v : AV} {f : Heap -> Option (AV × Heap × Fp)} (h : ∀ H2,f H2 = some (v,H2,.no)) : BE .no H H v f :=
 ⟨fun _ => ⟨rfl,h⟩,(fun b h => by cases h),fun _ => rfl,(fun n bs h => by cases h)⟩
theorem BE.ra {H : Heap} {v : AV} {f : Heap -> Option (AV × Heap × Fp)} : BE .ra H H v f :=
 ⟨(fun h => by cases h),(fun b h => by cases h),fun _ => rfl,(fun n bs h => by cases h)⟩
theorem BE.rd {H : Heap} {v : AV} {b : Nat} {f : Heap -> Option (AV × Heap × Fp)} (h : ∀ H2,aJ H2 b = aJ H b -> f H2 = some (v,H2,.rd b)) : BE (.rd b) H H v f :=
 ⟨(fun h => by cases h),(fun b' hb => by cases hb; exact ⟨rfl,h⟩),fun _ => rfl,(fun n bs h => by cases h)⟩
theorem BE.wr {H H' : Heap} {v : AV} {n : Nat} {bs : List Nat} {f : Heap -> Option (AV × Heap × Fp)} (h : ∀ b,b < n -> b ∉ bs -> aJ H' b = aJ H b) : BE (.wr n bs) H H' v f :=
 ⟨(fun h => by cases h),(fun b h => by cases h),(fun h => by cases h),fun n' bs' e => by cases e; exact h⟩
theorem Je {f : Nat} {args : List AV} {H H' : Heap} {v : AV} {fl : Fp} (h : vE c call f args H = some (v,H',fl)) : BE fl H H' v (vE c call f args) := by
 unfold vE at h;split at h
 ·cases h
 ·split at h
  ·simp at h; obtain ⟨_,_,rfl⟩ := h; exact .wr0
  ·cases h
 ·split at h
  ·split at h
   ·split at h
    ·simp at h; obtain ⟨_,_,rfl⟩ := h; exact .wr0
    ·cases h
   ·cases h
  ·cases h
 ·rename_i q hf;split at h
  ·rename_i hp;split at h
   ·rename_i r H1 hr;split at h
    ·rename_i r' bs hz;simp at h;obtain ⟨rfl,rfl,rfl⟩ := h;exact .no fun H2 => by simp [vE,hf,hp,hr,hz]
    ·cases h
   ·cases h
  ·split at h
   ·split at h
    ·split at h
     ·split at h
      ·simp at h; obtain ⟨_,rfl,rfl⟩ := h; exact .ra
      ·simp at h; obtain ⟨_,_,rfl⟩ := h; exact .wr0
     ·cases h
    ·cases h
   ·cases h
theorem aaa {env : Env} {H H' : Heap} {kd : Kd} {v : AV} {fl : Fp} (h : fc c call env H kd = some (v,H',fl)) : BE fl H H' v (fun H2 => fc c call env H2 kd) := by
 have app : ∀ {T : Heap} (b : Nat),b < H.length -> b ∉ ([] : List Nat) -> aJ (H ++ T) b = aJ H b := fun b hb _ => GD hb;have st : ∀ {x : TQ} {b0 : Nat} (b : Nat),b < H.length -> b ∉ [b0] -> aJ (H.set b0 x) b = aJ H b := fun b _ hn => GB (by simp at hn; exact fun e => hn e.symm)
 have mv : ∀ {x : TQ} {T : Heap} {b0 : Nat} (b : Nat),b < H.length -> b ∉ [b0] -> aJ (H.set b0 x ++ T) b = aJ H b := fun b hb hn => by
  rw [GD (by simpa using hb)]; exact GB (by simp at hn; exact fun e => hn e.symm)
 have same : ∀ (b : Nat),b < H.length -> b ∉ ([] : List Nat) -> aJ H b = aJ H b := fun _ _ _ => rfl;cases kd
 case call f xs => simp only [fc] at h ⊢; exact Je h
 case jm x xs =>
  simp only [fc] at h ⊢;split at h
  ·exact Je h
  ·cases h
 case ld ag x =>
  simp only [fc] at h ⊢;split at h
  ·rename_i cs hx;split at h
   ·rename_i u hu;simp at h;obtain ⟨rfl,rfl,rfl⟩ := h;exact .no fun H2 => by simp [hu]
   ·cases h
  ·rename_i b off hx;split at h
   ·rename_i cs hb;split at h
    ·rename_i u hu;simp at h;obtain ⟨rfl,rfl,rfl⟩ := h;exact .rd fun H2 h2 => by simp [h2,hb,hu]
    ·cases h
   ·cases h
  ·cases h
 case Hw n x hi =>
  simp only [fc] at h ⊢;split at h
  case h_2 => cases h
  rename_i m hm;split at h
  ·split at h
   ·rename_i hc;simp at h;obtain ⟨rfl,rfl,rfl⟩ := h;exact .no fun H2 => by simp [hc]
   ·cases h
  ·rename_i b off hx;split at h
   ·rename_i cs hb;split at h
    ·rename_i hc;simp at h;obtain ⟨rfl,rfl,rfl⟩ := h;exact .rd fun H2 h2 => by simp [h2,hb,hc]
    ·cases h
   ·cases h
  ·cases h
 all_goals simp only [fc] at h ⊢
 all_goals
  (repeat' split at h)
  all_goals first
   | (cases h; done)
   | (simp at h; obtain ⟨rfl,rfl,rfl⟩ := h; first | exact .wr app | exact .wr st | exact .wr mv | exact .wr same | (refine .no fun H2 => ?_; simp_all; done))
def px (c : dR) (call : Nat -> List AV -> Heap -> Option (AV × Heap)) (env : Env) (H : Heap) (o : O) : Option (AV × Heap × Fp) :=
 match o.guard with
 | none => fc c call env H o.kd
 | some (g,want) => match get env g with
   | .bool b => if b = want then fc c call env H o.kd else some (.undef,H,.no)
   | .undef => some (.undef,H,.no)
   | _ => none
theorem uh {e1 e2 : Env} {H : Heap} {q : O} (h : ∀ i ∈ q.reads,get e1 i = get e2 i) : px c call e1 H q = px c call e2 H q := by
 unfold px;unfold O.reads at h;simp only [aD] at h;cases hg : q.guard with
 | none => simp only [hg] at h ⊢; exact Jw fun i hi => h i (.inr hi)
 | some p =>
   obtain ⟨g,want⟩ := p;simp only [hg] at h ⊢;rw [h g (.inl (by simp)),Jw fun i hi => h i (.inr hi)]
theorem LI {env : Env} {H H' : Heap} {q : O} {v : AV} {fl : Fp} (h : px c call env H q = some (v,H',fl)) : BE fl H H' v (fun H2 => px c call env H2 q) := by
 unfold px at h ⊢;cases hg : q.guard with
 | none => simp only [hg] at h ⊢; exact aaa h
 | some p =>
   obtain ⟨g,want⟩ := p;simp only [hg] at h ⊢;split at h
   ·split at h
    ·rename_i PT; simp only [PT,if_true]; exact aaa h
    ·rename_i PT; simp only [PT,if_false]; simp at h; obtain ⟨rfl,rfl,rfl⟩ := h; exact .no fun _ => rfl
   ·simp at h; obtain ⟨rfl,rfl,rfl⟩ := h; exact .no fun _ => rfl
   ·cases h
theorem mem_iff {i : Nat} : ∀ {l : List Nat},mem i l = true ↔ i ∈ l
 | [] => by simp [mem]
 | j :: r => by
   unfold mem;split
   ·rename_i h; simp [h]
   ·rename_i h; rw [mem_iff]; simp [h]
theorem j8 {env : Env} {d : Option Nat} {v : AV} {i : Nat} (h : d ≠ some i) : get (rJ env d v) i = get env i := by
 cases d with
 | none => rfl
 | some d => simp only [rJ,bw]; rw [if_neg fun e => h (by rw [e])]
theorem abB {env : Env} {H H1 H2 : Heap} {x y : O} {v1 v2 : AV} {f1 f2 : Fp} (hx : px c call env H x = some (v1,H1,f1)) (hy : px c call (rJ env x.dst v1) H1 y = some (v2,H2,f2))
  (Br : jQ x y = true) (hf : f1.ok f2 = true) :
  ∃ H2',px c call env H y = some (v2,H2',f2) /\ px c call (rJ env y.dst v2) H2' x = some (v1,H2,f1) /\ ∀ i,get (rJ (rJ env x.dst v1) y.dst v2) i = get (rJ (rJ env y.dst v2) x.dst v1) i := by
 have a1 : ∀ d,x.dst = some d -> d ∉ y.reads /\ y.dst ≠ some d := by
  intro d hd;simp only [jQ,hd,aa,bD,decide_eq_true_eq] at Br;refine ⟨fun h => ?_,Br.1.2⟩;have := mem_iff.2 h;rw [Br.1.1] at this;cases this
 have a2 : ∀ d,y.dst = some d -> d ∉ x.reads := by
  intro d hd h;simp only [jQ,hd,aa,bD] at Br;have := mem_iff.2 h;rw [Br.2] at this;cases this
 have cy : ∀ Hq,px c call (rJ env x.dst v1) Hq y = px c call env Hq y := fun Hq => uh fun i hi => j8 fun e => (a1 i e).1 hi;have cx : ∀ Hq,px c call (rJ env y.dst v2) Hq x = px c call env Hq x := fun Hq => uh fun i hi => j8 fun e => a2 i e hi
 have he : ∀ i,get (rJ (rJ env x.dst v1) y.dst v2) i = get (rJ (rJ env y.dst v2) x.dst v1) i := by
  intro i;by_cases h1 : x.dst = some i
  ·have h2 := (a1 i h1).2;rw [j8 h2,h1];simp [rJ,bw]
  ·rw [j8 (env := rJ env y.dst v2) h1];by_cases h2 : y.dst = some i
   ·rw [h2]; simp [rJ,bw]
   ·rw [j8 h2,j8 h2,j8 h1]
 rw [cy] at hy;obtain ⟨g0,g1,g2,g3⟩ := LI hx;obtain ⟨k0,k1,k2,k3⟩ := LI hy;have nm : ∀ {b : Nat} {bs : List Nat},mem b bs = false -> b ∉ bs := fun h hm => by rw [mem_iff.2 hm] at h; cases h
 cases f1 with
 | no =>
   obtain ⟨rfl,h0⟩ := g0 rfl;exact ⟨H2,hy,by rw [cx]; exact h0 H2,he⟩
 | rd b =>
   obtain ⟨rfl,h0⟩ := g1 b rfl;cases f2 with
   | no => obtain ⟨rfl,_⟩ := k0 rfl; exact ⟨_,hy,by rw [cx]; exact hx,he⟩
   | rd b' => obtain ⟨rfl,_⟩ := k1 b' rfl; exact ⟨_,hy,by rw [cx]; exact hx,he⟩
   | ra => obtain rfl := k2 rfl; exact ⟨_,hy,by rw [cx]; exact hx,he⟩
   | wr n bs =>
     simp only [Fp.ok,aa,decide_eq_true_eq,bD] at hf;exact ⟨H2,hy,by rw [cx]; exact h0 H2 (k3 n bs rfl b hf.1 (nm hf.2)),he⟩
 | ra =>
   obtain rfl := g2 rfl;cases f2 with
   | no => obtain ⟨rfl,_⟩ := k0 rfl; exact ⟨_,hy,by rw [cx]; exact hx,he⟩
   | rd b' => obtain ⟨rfl,_⟩ := k1 b' rfl; exact ⟨_,hy,by rw [cx]; exact hx,he⟩
   | ra => obtain rfl := k2 rfl; exact ⟨_,hy,by rw [cx]; exact hx,he⟩
   | wr n bs => simp [Fp.ok] at hf
 | wr n bs =>
   cases f2 with
   | no => obtain ⟨rfl,h0⟩ := k0 rfl; exact ⟨H,h0 H,by rw [cx]; exact hx,he⟩
   | rd b =>
     obtain ⟨rfl,h0⟩ := k1 b rfl;simp only [Fp.ok,aa,decide_eq_true_eq,bD] at hf;exact ⟨H,h0 H (g3 n bs rfl b hf.1 (nm hf.2)).symm,by rw [cx]; exact hx,he⟩
   | ra => simp [Fp.ok] at hf
   | wr n' bs' => simp [Fp.ok] at hf

abbrev Ent := Nat × Oper × O × Fp
def Li (c : dR) (call : Nat -> List AV -> Heap -> Option (AV × Heap)) : List Ent -> Env -> Heap -> Env -> Heap -> Prop
 | [],e,H,e',H' => (∀ i,get e i = get e' i) /\ H = H'
 | p :: r,e,H,e',H' => ∃ v H1,px c call e H p.2.2.1 = some (v,H1,p.2.2.2) /\ Li c call r (rJ e p.2.2.1.dst v) H1 e' H'
theorem Li.congr : ∀ {R : List Ent} {e1 e2 : Env} {H : Heap} {e' : Env} {H' : Heap},(∀ i,get e1 i = get e2 i) -> Li c call R e1 H e' H' -> Li c call R e2 H e' H'
 | [],e1,e2,H,e',H',h,hr => ⟨fun i => (h i).symm.trans (hr.1 i),hr.2⟩
 | p :: r,e1,e2,H,e',H',h,⟨v,H1,h1,h2⟩ => by
   refine ⟨v,H1,by rw [<- uh fun i _ => h i]; exact h1,Li.congr (fun i => ?_) h2⟩;cases hd : p.2.2.1.dst with
   | none => exact h i
   | some d => simp only [rJ,bw]; rw [h i]
theorem Li.K7 {x : Ent} : ∀ {R1 R2 : List Ent} {e : Env} {H : Heap} {e' : Env} {H' : Heap},(∀ p ∈ R1,jQ p.2.2.1 x.2.2.1 = true /\ p.2.2.2.ok x.2.2.2 = true) -> Li c call (R1 ++ x :: R2) e H e' H' -> Li c call (x :: (R1 ++ R2)) e H e' H'
 | [],R2,e,H,e',H',_,hr => hr
 | p :: R1,R2,e,H,e',H',h,⟨v,H1,h1,h2⟩ => by
   obtain ⟨v2,H2,h3,h4⟩ := Li.K7 (fun q hq => h q (by simp [hq])) h2;obtain ⟨Br,hf⟩ := h p (by simp);obtain ⟨H2',k1,k2,k3⟩ := abB h1 h3 Br hf;exact ⟨v2,H2',k1,v,H2,k2,h4.congr k3⟩

inductive Anc (ops : Array Oper) (i : Nat) : Nat -> Prop
 | one {j : Nat} {o : Oper} (ho : ops[j]? = some o) (h : i ∈ direct o) : Anc ops i j
 | via {j k : Nat} {o : Oper} (ho : ops[j]? = some o) (h : k ∈ direct o) (ha : Anc ops i k) : Anc ops i j
theorem yh {o : Oper} {i : Nat} : i ∈ direct o ↔ ∃ e ∈ o.after,Region.binds .any e = true /\ e.on = i := by
 unfold direct;simp only [List.mem_map,List.mem_filter,Oj];constructor
 ·rintro ⟨e,⟨h1,h2⟩,h3⟩; exact ⟨e,h1,h2,h3⟩
 ·rintro ⟨e,h1,h2,h3⟩; exact ⟨e,⟨h1,h2⟩,h3⟩
def Qp (ops : Array Oper) (listed : Array Bool) : Prop := ∀ j o,ops[j]? = some o -> listed.getD j false = true -> ∀ i ∈ direct o,listed.getD i false = true
theorem Qp.Ai {ops : Array Oper} {listed : Array Bool} (h : Qp ops listed) {i j : Nat} (ha : Anc ops i j) : ∀ o,ops[j]? = some o -> (∀ k ∈ direct o,listed.getD k false = true) -> listed.getD i false = true := by
 induction ha with
 | one ho hm => intro o ho' hd; rw [ho] at ho'; cases ho'; exact hd _ hm
 | via ho hm ha ih =>
   intro o ho' hd;rw [ho] at ho';cases ho';have hk := hd _ hm;cases ha with
   | one ho2 hm2 => exact h _ _ ho2 hk _ hm2
   | via ho2 hm2 ha2 => exact ih _ ho2 fun l hl => h _ _ ho2 hk l hl
def aae (ops : Array Oper) (Ai : List (List Nat)) : Prop := ∀ j l,Ai[j]? = some l -> ∀ i ∈ l,Anc ops i j
theorem wL {i : Nat} : ∀ {l : List Nat},i ∈ dedup l -> i ∈ l
 | [],h => by simp [dedup] at h
 | x :: r,h => by
   unfold dedup at h;split at h
   ·exact fx _ (wL h)
   ·rcases aX.1 h with h | h
    ·subst h; simp
    ·exact fx _ (wL h)
theorem NU {ops : Array Oper} {Ai : List (List Nat)} (h : aae ops Ai) {j : Nat} {o : Oper} (ho : ops[j]? = some o) : ∀ i ∈ GM Ai o,Anc ops i j := by
 intro i hi;unfold GM at hi;rcases aD.1 (wL hi) with hi | hi
 ·exact .one ho hi
 ·obtain ⟨k,hk,wF⟩ := List.mem_flatMap.1 hi;refine .via ho (wL hk) ?_;rw [List.getD_eq_getElem?_getD] at wF;cases hl : Ai[k]? with
  | none => rw [hl] at wF; simp at wF
  | some l => rw [hl] at wF; exact h k l hl i wF
end
end Go.Am

/- A run of the compact code is a run of the dump's code; calls; the theorem that ties a call to the kit's 'Calls'. -/
namespace Go.Am
section
variable {P : Program} {c : dR}

def Ex.to : Ex -> Exit
 | .normal => .normal
 | .exit id => .exit id
 | .ret => .ret

def LW (P : Program) (cd : Code) (Q : Exit -> Act -> World -> Prop) (a : Act) (w : World) : Prop :=
 ∀ (b : Frame) (k : List Item) (cs : List Frame),∃ e a' w',Q e a' w' /\ Arrives P (lone (b.at a (.code cd :: .inLoop cd :: k)) cs w) b k cs e a' w'
theorem LW.loop {cd : Code} {Q : Exit -> Act -> World -> Prop} {a : Act} {w : World} (h : LW P cd Q a w) : (Code.loop cd).wp P Q a w := by
 intro b k cs;obtain ⟨e,a',w',hq,Nn⟩ := h b k cs;exact ⟨e,a',w',hq,.of_steps (.one step_loop) Nn⟩
theorem LW.step {cd : Code} {Q : Exit -> Act -> World -> Prop} {a : Act} {w : World} (h : cd.wp P (Exit.then (LW P cd Q) Q) a w) : LW P cd Q a w := by
 intro b k cs;obtain ⟨e,a1,w1,hq,Nn⟩ := h b (.inLoop cd :: k) cs;cases e with
 | normal =>
   obtain ⟨e2,a2,w2,hq2,agQ⟩ := hq b k cs;exact ⟨e2,a2,w2,hq2,.of_steps (Steps.trans Nn (.one step_inLoop)) agQ⟩
 | exit id => exact ⟨_,a1,w1,hq,.pass (x := .inLoop cd) rfl (fun _ _ => .inl (by simp)) Nn⟩
 | goto l => exact ⟨_,a1,w1,hq,.pass (x := .inLoop cd) rfl (fun _ _ => .inl (by simp)) Nn⟩
 | ret => exact ⟨_,a1,w1,hq,.pass (x := .inLoop cd) rfl (fun _ _ => .inl (by simp)) Nn⟩
 | panic ch => exact ⟨_,a1,w1,hq,.pass (x := .inLoop cd) rfl (fun _ _ => .inl (by simp)) Nn⟩
 | outgrown => exact ⟨_,a1,w1,hq,.pass (x := .inLoop cd) rfl (fun _ _ => .inl (by simp)) Nn⟩

theorem rV : ∀ (args : List AV) (k i : Nat),get (dJ k args) i = if k <= i then args[i - k]?.getD .any else .any
 | [],k,i => by simp [dJ,get]
 | x :: r,k,i => by
   simp only [dJ,get];by_cases h : i = k
   ·subst h; simp
   ·rw [if_neg h,rV r (k + 1) i];by_cases h2 : k + 1 <= i
    ·rw [if_pos h2,if_pos (by omega),show i - k = (i - (k + 1)) + 1 by omega,mK]
    ·rw [if_neg h2,if_neg (by omega)]
theorem WG {X : Nat -> Prop} {φ : dq} {w : World} {s : St} {ts : Array Value} (he : n7 X φ w s.env ts) (hh : b8 X φ w s.H) : ∀ {rs : List ResultVar} {qs : List Rv} {xs : List AV},CQ P rs qs = true -> Mb s.H s.env qs = some xs ->
  ∃ vs : List Value,(rs.mapM (m := Sem) fun
   | .tmp t => pure (ts.getD t undef)
   | .cell a t => do loadVar t (<- asAddr (ts.getD a undef))).run P w = .ok vs w /\ Cs X φ w xs vs
 | [],[],xs,_,h => by simp [Mb] at h; subst h; exact ⟨[],rfl,rfl,fun i c v hc => by simp at hc⟩
 | [],_ :: _,_,h,_ => by simp [CQ] at h
 | _ :: _,[],_,h,_ => by simp [CQ] at h
 | r :: rs,q :: qs,xs,h,hx => by
   simp only [CQ,aa] at h;simp only [Mb] at hx;split at hx
   case h_2 => cases hx
   rename_i x ys h1 h2;simp at hx;subst hx;obtain ⟨vs,e1,e2⟩ := WG he hh h.2 h2
   have one : ∃ v,(match r with
    | .tmp t => pure (ts.getD t undef)
    | .cell a t => do loadVar t (<- asAddr (ts.getD a undef)) : Sem Value).run P w = .ok v w /\ bR (Rd X φ w) φ x v := by
    have hr := h.1;unfold chkR at hr;split at hr
    ·rename_i t i;simp at hr;subst hr;simp [WH] at h1;subst h1;exact ⟨_,rfl,he _⟩
    ·rename_i a t i ag;simp only [aa,decide_eq_true_eq] at hr;obtain ⟨rfl,Lu⟩ := hr;have r := he a;simp only [WH] at h1;split at h1
     ·rename_i b off hg;split at h1
      case h_2 => cases h1
      rename_i cs dx;rw [hg] at r;obtain ⟨g,sz,arr,e,h3,_,_,_,_,_,_,h4⟩ := Lv.Ph hh dx r;obtain ⟨u,h5,h6⟩ := KH Lu h1 h4;exact ⟨u,by simp [h3,asAddr,h5],h6⟩
     ·rename_i cs hg;rw [hg] at r;obtain ⟨ad,h3,h4⟩ := Lv.SQ r;obtain ⟨u,h5,h6⟩ := KH Lu h1 h4;exact ⟨u,by simp [h3,asAddr,h5],h6⟩
     ·cases h1
    ·cases hr
   obtain ⟨v,e3,e4⟩ := one;refine ⟨v :: vs,?_,by simp [e2.1],fun i c u hc hu => ?_⟩
   ·simp only [List.mapM_cons,Sem.run_bind,Sem.run_pure];rw [e3];simp only [Result.andThen_ok];rw [e1];simp only [Result.andThen_ok]
   ·cases i with
    | zero => simp at hc hu; subst hc; subst hu; exact e4
    | succ i => simp at hc hu; exact e2.2 i c u hc hu
theorem BG {X : Nat -> Prop} {φ : dq} {w : World} {s : St} {ts : Array Value} {fn : Func} {qs : List Rv} {xs : List AV} (he : n7 X φ w s.env ts) (hh : b8 X φ w s.H) (hc : CQ P fn.results.toList qs = true) (hx : Mb s.H s.env qs = some xs) :
  ∃ v,(results fn ts).run P w = .ok v w /\ bR (Rd X φ w) φ (nJ xs) v := by
 obtain ⟨vs,h1,h2⟩ := WG (P := P) he hh hc hx
 have h3 : (fn.results.mapM (m := Sem) fun
   | .tmp t => pure (ts.getD t undef)
   | .cell a t => do loadVar t (<- asAddr (ts.getD a undef))).run P w = .ok vs.toArray w := by
  rw [<- wS (xs := fn.results),List.mapM_toArray];simp only [Sem.run_map];rw [h1];simp only [Result.andThen_ok]
 have h4 : (results fn ts).run P w = (Result.ok vs.toArray w).andThen (fun (a : Array Value) w' => (pure (if h : a.size = 1 then a[0] else .tuple a) : Sem Value).run P w') := by
  unfold results;simp only [Sem.run_bind];exact congrArg (fun z => Result.andThen z _) h3
 rw [h4];simp only [Result.andThen_ok,Sem.run_pure];refine ⟨_,rfl,?_⟩;obtain ⟨hl,hr⟩ := h2
 match xs,vs,hl,hr with
 | [],[],_,_ => exact .dp _ _ _ rfl fun i c v hc => by simp at hc
 | [x],[v],_,hr => exact hr 0 x v rfl rfl
 | x :: y :: xs,v :: u :: vs,hl,hr =>
   have e : ¬ ((v :: u :: vs).toArray.size = 1) := by simp
   rw [dif_neg e];exact .dp _ _ _ (by simpa using hl) fun i c z hc hz => hr i c z hc (by simpa using hz)

end
end Go.Am
