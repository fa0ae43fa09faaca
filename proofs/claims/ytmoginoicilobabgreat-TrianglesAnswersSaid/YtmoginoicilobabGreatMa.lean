/- An abstract machine, and its soundness against the model. -/
import Derived.WalkKit
import Derived.Laws.StructEq
import Derived.Laws.MakeOwn
import Derived.Scope
set_option linter.unusedVariables false
/- The abstract machine: values by value, a small heap of own blocks, and an interpreter with fuel for the compact code. -/
open Array renaming getD_eq_getD_getElem? → a8, getElem?_append_left → pJ, getElem?_eq_getElem → dX, getElem?_eq_some_iff → dG, getElem?_push → yt, getElem?_toList → js, length_toList → kq, map → Cn, mem_toList_iff → PH, range → vM, size_append → WJ, toArray_toList → vL, toList_inj → gg
open Bool renaming and_eq_true → aa, false_eq_true → bW, not_eq_true' → bH
open List renaming append_assoc → bK, eq_nil_of_length_eq_zero → dn, ext_getElem? → dS, getElem?_append_left → aq, getElem?_append_right → aK, getElem?_cons_succ → jm, getElem?_drop → aQ, getElem?_map → dQ, getElem?_of_mem → br, getElem?_set → bg, getElem?_set_ne → cP, getElem?_take → bf, getElem?_take_of_lt → aS, getElem?_toArray → uT, length_append → bX, length_cons → bY, length_drop → c9, length_take → bh, map_cons → dR, map_nil → De, mem_append → aC, mem_cons → aU, mem_cons_of_mem → iw, size_toArray → mi
open Nat renaming add_mul → cq, add_zero → wg, le_refl → aT, le_succ → K5, le_trans → GI, lt_of_lt_of_le → fj, mul_le_mul → PD, mul_le_mul_right → bD
open Option renaming isSome_iff_exists → aW, map_none → CE
open Option.some renaming injEq → ah
open Prod.mk renaming injEq → aF
namespace Go.Am

inductive Rt where
 | s (i : Nat) | sc (i j : Nat) | c (b j : Nat)
 deriving DecidableEq,Inhabited
inductive AV where
 | any | undef | fk | fu | dJ
 | int (k : IntKind) (n : Int)
 | bool (b : Bool)
 | str (s : ByteArray)
 | agg (cs : List AV)
 | dD (vs : List AV)
 | list (k : Nat) (xs : List AV)
 | dI (cs : List AV)
 | ptr (b off : Nat)
 | sl (k b off len : Nat)
 | func (fn : Fn) (first caps : List AV)
 | own (k : Nat) (xs : List AV)
 | dA (k : Nat) (p : Rt) (off len : Nat)
 | eW (k : Nat) (p : Rt) (i off : Nat)
 deriving Inhabited

abbrev PB := Option (List AV)
abbrev Heap := List PB
abbrev Env := List (Nat × AV)

def jQ : Nat := 4294967296

def get : Env -> Nat -> AV
 | [],_ => .any
 | (j,u) :: r,i => if i = j then u else get r i
def put : Env -> Nat -> AV -> Env
 | [],i,v => [(i,v)]
 | (j,u) :: r,i,v => if i < j then (i,v) :: (j,u) :: r else if i = j then (i,v) :: r else (j,u) :: put r i v
def mem : Nat -> List Nat -> Bool
 | _,[] => false
 | i,j :: r => if i = j then true else mem i r
def pR (keep : List Nat) : Env -> Env
 | [] => []
 | (j,u) :: r => if mem j keep then (j,u) :: pR keep r else pR keep r
def ql (env : Env) (d : Option Nat) (v : AV) : Env :=
 match d with
 | some d => put env d v
 | none => env
def ei : Nat -> List AV -> Env
 | _,[] => []
 | i,a :: r => (i,a) :: ei (i + 1) r

def AV.cells : AV -> List AV
 | .agg cs => cs
 | x => [x]
def AV.leaf : AV -> Bool
 | .any | .undef | .agg _ | .dD _ => false
 | _ => true
def bq : List AV -> Bool
 | [] => true
 | x :: r => x.leaf && bq r

mutual
def AV.plain : AV -> Bool
 | .ptr _ _ | .sl _ _ _ _ => false
 | .agg cs => pO cs
 | .dD cs => pO cs
 | .func _ a b => pO a && pO b
 | _ => true
def pO : List AV -> Bool
 | [] => true
 | x :: r => x.plain && pO r
end
mutual
def AV.flat : AV -> Bool
 | .ptr _ _ | .sl _ _ _ _ | .list _ _ | .dI _ => false
 | .agg cs => FA cs
 | .dD cs => FA cs
 | .func _ a b => FA a && FA b
 | _ => true
def FA : List AV -> Bool
 | [] => true
 | x :: r => x.flat && FA r
end
mutual
def AV.tt (n : Nat) : AV -> Bool
 | .ptr b _ => decide (b < n)
 | .sl _ b _ _ => decide (b < n)
 | .agg cs => nj n cs
 | .dD cs => nj n cs
 | .func _ a b => nj n a && nj n b
 | _ => true
def nj (n : Nat) : List AV -> Bool
 | [] => true
 | x :: r => x.tt n && nj n r
end
def xS (n : Nat) : Heap -> Bool
 | [] => true
 | none :: r => xS n r
 | some cs :: r => nj n cs && xS n r

def aJ (H : Heap) (b : Nat) : Option (List AV) :=
 match H[b]? with
 | some (some cs) => some cs
 | _ => none
def el : List AV -> AV
 | [.agg cs] => .agg [.agg cs]
 | [x] => x
 | cs => .agg cs
def PA (k : Nat) : Nat -> List AV -> List AV
 | 0,_ => []
 | n + 1,cs => el (cs.take k) :: PA k n (cs.drop k)
def As (f : AV -> Option (AV × List Nat)) : List AV -> Option (List AV × List Nat)
 | [] => some ([],[])
 | x :: r => match f x,As f r with
   | some (y,b),some (ys,bs) => some (y :: ys,b ++ bs)
   | _,_ => none
def AW (H : Heap) : Nat -> AV -> Option (AV × List Nat)
 | 0,_ => none
 | n + 1,x => match x with
   | .ptr b off => match aJ H b with
     | some cs => match As (AW H n) (cs.drop off) with
       | some (ys,bs) => some (.dI ys,b :: bs)
       | none => none
     | none => none
   | .sl k b off len => match aJ H b with
     | some cs => if off + len * k <= cs.length then
       match As (AW H n) ((cs.drop off).take (len * k)) with
       | some (ys,bs) => some (.list k (PA k len ys),b :: bs)
       | none => none
       else none
     | none => none
   | .agg cs => match As (AW H n) cs with
     | some (ys,bs) => some (.agg ys,bs)
     | none => none
   | .dD cs => match As (AW H n) cs with
     | some (ys,bs) => some (.dD ys,bs)
     | none => none
   | .func f a c => match As (AW H n) a,As (AW H n) c with
     | some (ys,bs),some (zs,cs) => some (.func f ys zs,bs ++ cs)
     | _,_ => none
   | x => some (x,[])
def UA (n : Nat) : List Nat -> Bool
 | [] => true
 | b :: r => decide (n <= b) && UA n r
def kill : Heap -> List Nat -> Heap
 | H,[] => H
 | H,b :: r => kill (H.set b none) r
def Rs : Nat := 8

inductive E where
 | t (i : Nat) | k (x : AV) | g (i : Nat)
 deriving Inhabited

inductive Et where
 | bool | str (ints : List Bool) | Pt | EX | nfn
 deriving Inhabited

inductive Kd where
 | mv (x : E) | pick (c a b : E)
 | new (zs : List AV) | box (x : E)
 | build (zs : List AV) (parts : List (Nat × Nat × E))
 | eE (k n : Nat) (zs : List AV) (parts : List (Nat × Nat × E))
 | ld (ag : Option Nat) (x : E) | st (k : Nat) (a v : E)
 | kU (x : E)
 | bin (op : BinOp) (x y : E) | eq (neg : Bool) (t : Et) (x y : E) | un (op : UnOp) (x : E) | CB (k : IntKind) (x : E)
 | TK (fn : Fn) (first caps : List E)
 | Kn (k : Nat) (zs : List AV) (len cap : E)
 | rT (k : Nat) (x : E) (lo hi : Option E)
 | cC (off : Nat) (x : E) | IK (n : Nat) (x : E) (hi : Option E) | V9 (off : Nat) (ag : Option Nat) (x : E)
 | gw (k : Nat) (x i : E) | Fi (n k : Nat) (x i : E) | ix (n k : Nat) (ag : Option Nat) (x i : E)
 | ext (i : Nat) (x : E)
 | call (f : Nat) (args : List E) | jr (x : E) (args : List E)
 | VE (tab : List Nat) (i : E) | Ur (k : Nat) (zs : List AV) (x : E)
 | len (x : E) | app (k : Nat) (x y : E) | min (xs : List E) | max (xs : List E) | copy (k : Nat) (x y : E)
 | bad
 deriving Inhabited

structure O where
 dst : Option Nat
 guard : Option (Nat × Bool)
 kd : Kd
 deriving Inhabited

def E.slot : E -> List Nat
 | .t i => [i]
 | _ => []
def kP : List E -> List Nat
 | [] => []
 | x :: r => x.slot ++ kP r
def nK : List (Nat × Nat × E) -> List Nat
 | [] => []
 | p :: r => p.2.2.slot ++ nK r
def Hi : Option E -> List Nat
 | some x => x.slot
 | none => []
def Kd.reads : Kd -> List Nat
 | .mv x | .box x | .ld _ x | .kU x | .un _ x | .CB _ x | .cC _ x | .V9 _ _ x | .ext _ x | .len x => x.slot
 | .pick c a b => c.slot ++ (a.slot ++ b.slot)
 | .new _ => []
 | .bad => []
 | .VE _ i => i.slot
 | .Ur _ _ x => x.slot
 | .build _ ps | .eE _ _ _ ps => nK ps
 | .st _ x y | .bin _ x y | .eq _ _ x y | .Kn _ _ x y | .gw _ x y | .Fi _ _ x y | .ix _ _ _ x y | .app _ x y | .copy _ x y => x.slot ++ y.slot
 | .TK _ a b => kP a ++ kP b
 | .rT _ x lo hi => x.slot ++ (Hi lo ++ Hi hi)
 | .IK _ x hi => x.slot ++ Hi hi
 | .call _ xs | .min xs | .max xs => kP xs
 | .jr x xs => x.slot ++ kP xs
def Kd.pure : Kd -> Bool
 | .mv _ | .pick _ _ _ | .build _ _ | .kU _ | .bin _ _ _ | .eq _ _ _ _ | .un _ _ | .CB _ _ | .TK _ _ _ | .rT _ _ _ _ | .cC _ _ | .V9 _ _ _ | .gw _ _ _ | .Fi _ _ _ _ | .ix _ _ _ _ _ | .ext _ _ | .VE _ _ | .len _ | .min _ | .max _ => true
 | _ => false
def O.reads (o : O) : List Nat := (match o.guard with
 | some (g,_) => [g]
 | none => []) ++ o.kd.reads

inductive Fp where
 | no | rd (b : Nat) | ra | wr (n : Nat) (bs : List Nat)
 deriving Inhabited
def Fp.ok : Fp -> Fp -> Bool
 | .no,_ => true
 | _,.no => true
 | .rd _,.rd _ => true
 | .rd _,.ra => true
 | .ra,.rd _ => true
 | .ra,.ra => true
 | .rd b,.wr n bs => decide (b < n) && !mem b bs
 | .wr n bs,.rd b => decide (b < n) && !mem b bs
 | _,_ => false

inductive C where
 | skip | ret | exit (id : Nat)
 | aH (os : List O) (dr : Bool) (un : List (Nat × Nat)) (keep : List Nat)
 | seq (a b : C) | cond (c : E) (a b : C) | aJ (id : Nat) (b : C) | loop (b : C)
 deriving Inhabited

inductive Md where | P | T | K
 deriving Inhabited
inductive Rv where | t (i : Nat) | c (i : Nat) (ag : Option Nat)
 deriving Inhabited
structure eR where
 n : Nat
 np : Nat
 res : List Rv
 body : C
 deriving Inhabited
structure eG where
 fn : Nat -> Option (Md × eR)
 gl : Nat -> List AV
 orc : Nat -> Option (List AV -> Heap -> Option (AV × Heap))

inductive Ex where | normal | exit (id : Nat) | ret
 deriving Inhabited
structure St where
 env : Env
 H : Heap
 deriving Inhabited

def ev (c : eG) (env : Env) : E -> AV
 | .t i => get env i
 | .k x => x
 | .g i => .dI (c.gl i)
def C7 (c : eG) (env : Env) : List E -> List AV
 | [] => []
 | x :: r => ev c env x :: C7 c env r

def zQ (ag : Option Nat) (cs : List AV) : Option AV :=
 match ag with
 | some k => if k <= cs.length then some (.agg (cs.take k)) else none
 | none => cs.head?
def iZ (cs : List AV) (off : Nat) (vs : List AV) : List AV := cs.take off ++ vs ++ cs.drop (off + vs.length)
def idx (x : AV) (len : Nat) : Option Nat :=
 match x with
 | .int _ i => if 0 <= i /\ i < (len : Int) then some i.toNat else none
 | _ => none
def bnd (x : AV) (hi : Nat) : Option Nat :=
 match x with
 | .int _ i => if 0 <= i /\ i <= (hi : Int) then some i.toNat else none
 | _ => none
def zq (c : eG) (env : Env) (dflt hi : Nat) : Option E -> Option Nat
 | none => some dflt
 | some x => bnd (ev c env x) hi
def mB (c : eG) (env : Env) : List AV -> List (Nat × Nat × E) -> Option (List AV)
 | zs,[] => some zs
 | zs,(off,sz,x) :: r =>
   if (ev c env x).cells.length = sz /\ off + sz <= zs.length /\ bq (ev c env x).cells = true then mB c env (iZ zs off (ev c env x).cells) r else none

def arith (op : BinOp) (k : IntKind) (x y : Int) : Option AV :=
 match op with
 | .add => some (.int k (k.wrap (x + y)))
 | .sub => some (.int k (k.wrap (x - y)))
 | .mul => some (.int k (k.wrap (x * y)))
 | .quo => if y = 0 then none else some (.int k (k.wrap (x.tdiv y)))
 | .rem => if y = 0 then none else some (.int k (x.tmod y))
 | .and => some (.int k (bits .and k x y))
 | .or => some (.int k (bits .or k x y))
 | .xor => some (.int k (bits .xor k x y))
 | .andNot => some (.int k (bits .andNot k x y))
 | .eql => some (.bool (x == y))
 | .neq => some (.bool (x != y))
 | .lss => some (.bool (decide (x < y)))
 | .leq => some (.bool (decide (x <= y)))
 | .gtr => some (.bool (decide (y < x)))
 | .geq => some (.bool (decide (y <= x)))
 | _ => none
def sQ : List Bool -> List AV -> List AV -> Option Bool
 | [],[],[] => some true
 | true :: l,.int k a :: r,.int k' b :: s => if k = k' then match sQ l r s with
   | some e => some (a == b && e)
   | none => none
   else none
 | false :: l,.bool a :: r,.bool b :: s => match sQ l r s with
   | some e => some (a == b && e)
   | none => none
 | _,_,_ => none
def isNil : Et -> AV -> Option Bool
 | .Pt,.dJ => some true
 | .Pt,.sl _ _ _ _ => some false
 | .Pt,.list _ (_ :: _) => some false
 | .EX,.fk => some true
 | .EX,.ptr _ _ => some false
 | .EX,.dI _ => some false
 | .nfn,.fu => some true
 | .nfn,.func _ _ _ => some false
 | _,_ => none
def FC : Et -> AV -> AV -> Option Bool
 | .bool,.bool a,.bool b => some (a == b)
 | .str l,.agg xs,.agg ys => sQ l xs ys
 | .Pt,x,.dJ => isNil .Pt x
 | .EX,x,.fk => isNil .EX x
 | .nfn,x,.fu => isNil .nfn x
 | _,_,_ => none
def Gc (op : BinOp) (x y : AV) : Option AV :=
 match x,y with
 | .int k a,.int k' b => match op with
   | .shl => if b < 0 then none else some (.int k (k.wrap (a * 2 ^ (min b.toNat k.bits))))
   | .shr => if b < 0 then none else some (.int k (a.fdiv (2 ^ (min b.toNat k.bits))))
   | op => if k = k' then arith op k a b else none
 | _,_ => none
def W2 (op : UnOp) (x : AV) : Option AV :=
 match op,x with
 | .neg,.int k n => some (.int k (k.wrap (0 - n)))
 | .xor,.int k n => some (.int k (bits .xor k (if k.signed then -1 else k.max) n))
 | .not,.bool b => some (.bool (!b))
 | _,_ => none
def aA : List AV -> List AV
 | [] => []
 | x :: r => x.cells ++ aA r
def iP (H : Heap) (k : Nat) : AV -> Option (List AV × Nat)
 | .dJ => some ([],0)
 | .list k' xs => if k' = k then some (aA xs,xs.length) else none
 | .sl k' b off len => match aJ H b with
   | some cs => if k' = k /\ off + len * k <= cs.length then some ((cs.drop off).take (len * k),len) else none
   | none => none
 | _ => none
def lenA : AV -> Option Nat
 | .dJ => some 0
 | .list _ xs => some xs.length
 | .sl _ _ _ len => some len
 | _ => none
def yX (mx : Bool) : AV -> List AV -> Option AV
 | x,[] => some x
 | .int k a,.int _ b :: r => yX mx (.int k (if mx then (if b > a then b else a) else (if b < a then b else a))) r
 | _,_ => none
def xK (mx : Bool) : List AV -> Option AV
 | .int k a :: r => yX mx (.int k a) r
 | _ => none
def rep (zs : List AV) : Nat -> List AV
 | 0 => []
 | n + 1 => zs ++ rep zs n

def uz (c : eG) (call : Nat -> List AV -> Heap -> Option (AV × Heap)) (f : Nat) (args : List AV) (H : Heap) : Option (AV × Heap × Fp) :=
 match c.fn f with
 | none => none
 | some (.K,_) => match call f args H with
   | some (r,H') => some (r,H',.wr 0 [])
   | none => none
 | some (.T,_) => match call f args H with
   | some (r,H') => match AW H' Rs r with
     | some (r',bs) => if H.length <= H'.length /\ UA H.length bs = true /\ xS H.length (H'.take H.length) = true then some (r',H'.take H.length,.wr 0 []) else none
     | none => none
   | none => none
 | some (.P,_) => if pO args then
   match call f args [] with
   | some (r,H') => match AW H' Rs r with
     | some (r',_) => some (r',H,.no)
     | none => none
   | none => none
   else match As (AW H Rs) args with
    | some (pE,bs) => match call f pE [] with
      | some (r,H') => match AW H' Rs r with
        | some (r',_) => if r'.flat then some (r',H,.ra) else some (r',kill H bs,.wr 0 [])
        | none => none
      | none => none
    | none => none

def fL (c : eG) (call : Nat -> List AV -> Heap -> Option (AV × Heap)) (env : Env) (H : Heap) : Kd -> Option (AV × Heap × Fp)
 | .mv x => some (ev c env x,H,.no)
 | .pick t a b => match ev c env t with
   | .bool t => some (if t then ev c env a else ev c env b,H,.no)
   | _ => none
 | .new zs => some (.ptr H.length 0,H ++ [some zs],.wr H.length [])
 | .box x => if bq (ev c env x).cells then some (.ptr H.length 0,H ++ [some (ev c env x).cells],.wr H.length []) else none
 | .build zs ps => match mB c env zs ps with
   | some cs => some (.agg cs,H,.no)
   | none => none
 | .eE k n zs ps => match mB c env (rep zs n) ps with
   | some cs => if bq cs then some (.sl k H.length 0 n,H ++ [some cs],.wr H.length []) else none
   | none => none
 | .ld ag x => match ev c env x with
   | .dI cs => match zQ ag cs with
     | some v => some (v,H,.no)
     | none => none
   | .ptr b off => match aJ H b with
     | some cs => match zQ ag (cs.drop off) with
       | some v => some (v,H,.rd b)
       | none => none
     | none => none
   | _ => none
 | .st k a v => match ev c env a with
   | .ptr b off => match aJ H b with
     | some cs => if (ev c env v).cells.length = k /\ off + k <= cs.length /\ bq (ev c env v).cells = true then
       some (.undef,H.set b (some (iZ cs off (ev c env v).cells)),.wr H.length [b]) else none
     | none => none
   | _ => none
 | .kU x => match ev c env x with
   | .ptr b off => some (.ptr b off,H,.no)
   | .dI cs => some (.dI cs,H,.no)
   | .func (.func f) a b => some (.func (.func f) a b,H,.no)
   | _ => none
 | .bin op x y => match Gc op (ev c env x) (ev c env y) with
   | some v => some (v,H,.no)
   | none => none
 | .eq ng t x y => match FC t (ev c env x) (ev c env y) with
   | some e => some (.bool (if ng then !e else e),H,.no)
   | none => none
 | .un op x => match W2 op (ev c env x) with
   | some v => some (v,H,.no)
   | none => none
 | .CB k x => match ev c env x with
   | .int _ n => some (.int k (k.wrap n),H,.no)
   | _ => none
 | .TK fn a b => some (.func fn (C7 c env a) (C7 c env b),H,.no)
 | .Kn k zs l cp => match ev c env l,ev c env cp with
   | .int _ l,.int _ cp => if 0 <= l /\ l <= cp /\ cp <= (jQ : Int) then some (.sl k H.length 0 l.toNat,H ++ [some (rep zs l.toNat)],.wr H.length []) else none
   | _,_ => none
 | .rT k x lo hi => match lenA (ev c env x) with
   | some n => match zq c env n n hi with
     | some h => match zq c env 0 h lo with
       | some l => match ev c env x with
         | .dJ => some (.dJ,H,.no)
         | .list k' xs => if k' = k then some (.list k ((xs.take h).drop l),H,.no) else none
         | .sl k' b off _ => if k' = k then some (.sl k b (off + l * k) (h - l),H,.no) else none
         | _ => none
       | none => none
     | none => none
   | none => none
 | .cC off x => match ev c env x with
   | .ptr b o => some (.ptr b (o + off),H,.no)
   | .dI cs => some (.dI (cs.drop off),H,.no)
   | _ => none
 | .IK n x hi => match zq c env n n hi with
   | some m => match ev c env x with
     | .dI cs => if n <= cs.length /\ m = n /\ bq (cs.take n) = true then some (.list 1 (cs.take n),H,.no) else none
     | .ptr b off => match aJ H b with
       | some cs => if off + n <= cs.length then some (.sl 1 b off m,H,.rd b) else none
       | none => none
     | _ => none
   | none => none
 | .V9 off ag x => match ev c env x with
   | .agg cs => match zQ ag (cs.drop off) with
     | some v => some (v,H,.no)
     | none => none
   | _ => none
 | .gw k x i => match ev c env x with
   | .list k' xs => match idx (ev c env i) xs.length with
     | some j => if k' = k then match xs[j]? with
       | some v => some (.dI v.cells,H,.no)
       | none => none
       else none
     | none => none
   | .sl k' b off len => match idx (ev c env i) len with
     | some j => if k' = k then some (.ptr b (off + j * k),H,.no) else none
     | none => none
   | _ => none
 | .Fi n k x i => match idx (ev c env i) n with
   | some j => match ev c env x with
     | .ptr b off => some (.ptr b (off + j * k),H,.no)
     | .dI cs => some (.dI (cs.drop (j * k)),H,.no)
     | _ => none
   | none => none
 | .ix n k ag x i => match idx (ev c env i) n with
   | some j => match ev c env x with
     | .agg cs => match zQ ag (cs.drop (j * k)) with
       | some v => some (v,H,.no)
       | none => none
     | _ => none
   | none => none
 | .VE tab i => match idx (ev c env i) tab.length with
   | some j => match tab[j]? with
     | some v => some (.int .u8 v,H,.no)
     | none => none
   | none => none
 | .Ur k zs x => match ev c env x with
   | .dJ => some (.undef,H,.wr H.length [])
   | .list _ [] => some (.undef,H,.wr H.length [])
   | .sl k' b off len => if len = 0 then some (.undef,H,.wr H.length []) else match aJ H b with
     | some cs => if k' = k /\ off + len * k <= cs.length then some (.undef,H.set b (some (iZ cs off (rep zs len))),.wr H.length [b]) else none
     | none => none
   | _ => none
 | .ext i x => match ev c env x with
   | .dD vs => match vs[i]? with
     | some v => some (v,H,.no)
     | none => none
   | _ => none
 | .call f args => uz c call f (C7 c env args) H
 | .jr x args => match ev c env x with
   | .func (.func f) a b => uz c call f (a ++ C7 c env args ++ b) H
   | _ => none
 | .len x => match lenA (ev c env x) with
   | some n => some (.int .i64 n,H,.no)
   | none => none
 | .app k x y => match iP H k (ev c env y) with
   | some (news,m) => match ev c env x with
     | .dJ => if m = 0 then some (.dJ,H,.wr H.length []) else if m <= jQ /\ bq news = true then some (.sl k H.length 0 m,H ++ [some news],.wr H.length []) else none
     | .sl k' b 0 n => match aJ H b with
       | some cs => if k' = k /\ n * k <= cs.length /\ n + m <= jQ /\ bq news = true then some (.sl k H.length 0 (n + m),H.set b none ++ [some (cs.take (n * k) ++ news)],.wr H.length [b]) else none
       | none => none
     | _ => none
   | none => none
 | .min xs => match xK false (C7 c env xs) with
   | some v => some (v,H,.no)
   | none => none
 | .max xs => match xK true (C7 c env xs) with
   | some v => some (v,H,.no)
   | none => none
 | .copy k x y => match iP H k (ev c env y) with
   | some (news,m) => match ev c env x with
     | .dJ => some (.int .i64 0,H,.wr H.length [])
     | .sl k' b off n => match aJ H b with
       | some cs => if k' = k /\ off + n * k <= cs.length /\ bq news = true then some (.int .i64 (min m n : Nat),H.set b (some (iZ cs off (news.take (min m n * k)))),.wr H.length [b]) else none
       | none => none
     | _ => none
   | none => none
 | .bad => none

def XJ (H : Heap) (env : Env) : Rv -> Option AV
 | .t i => some (get env i)
 | .c i ag => match get env i with
   | .ptr b off => match aJ H b with
     | some cs => zQ ag (cs.drop off)
     | none => none
   | .dI cs => zQ ag cs
   | _ => none
def LR (H : Heap) (env : Env) : List Rv -> Option (List AV)
 | [] => some []
 | r :: rs => match XJ H env r,LR H env rs with
   | some v,some vs => some (v :: vs)
   | _,_ => none
def m6 : List AV -> AV
 | [x] => x
 | vs => .dD vs

end Go.Am

/- How abstract values stand for values of the model in a world. -/
namespace Go.Am

abbrev dF := List (Option (Nat × Nat))
def bM (φ : dF) (g : Nat) : Prop := ∃ b sz : Nat,φ[b]? = some (some (g,sz))
def Rd (X : Nat -> Prop) (φ : dF) (w : World) (a : Addr) (u : Value) : Prop := ¬ X a.block /\ ¬ bM φ a.block /\ w.cell? a = some u

inductive bI (R : Addr -> Value -> Prop) : dF -> AV -> Value -> Prop
 | any (φ : dF) (v : Value) : bI R φ .any v
 | undef (φ : dF) : bI R φ .undef (.tuple #[])
 | fk (φ : dF) : bI R φ .fk (.pointer none)
 | fu (φ : dF) : bI R φ .fu .nilFunc
 | dJ (φ : dF) : bI R φ .dJ (.slice none 0 0)
 | int (φ : dF) (k : IntKind) (n : Int) : bI R φ (.int k n) (.int k n)
 | bool (φ : dF) (b : Bool) : bI R φ (.bool b) (.bool b)
 | str (φ : dF) (s : ByteArray) : bI R φ (.str s) (.string s)
 | agg (φ : dF) (cs : List AV) (vs : Array Value) (hl : cs.length = vs.size) (h : ∀ (i : Nat) (c : AV) (v : Value),cs[i]? = some c -> vs[i]? = some v -> bI R φ c v) : bI R φ (.agg cs) (.agg vs)
 | dD (φ : dF) (cs : List AV) (vs : Array Value) (hl : cs.length = vs.size) (h : ∀ (i : Nat) (c : AV) (v : Value),cs[i]? = some c -> vs[i]? = some v -> bI R φ c v) : bI R φ (.dD cs) (.tuple vs)
 | func (φ : dF) (f : Fn) (as : List AV) (va : Array Value) (bs : List AV) (vb : Array Value) (zE : as.length = va.size) (zD : bs.length = vb.size)
   (ha : ∀ (i : Nat) (c : AV) (v : Value),as[i]? = some c -> va[i]? = some v -> bI R φ c v) (hb : ∀ (i : Nat) (c : AV) (v : Value),bs[i]? = some c -> vb[i]? = some v -> bI R φ c v) : bI R φ (.func f as bs) (.func f va vb)
 | qC (φ : dF) (k : Nat) (xs : List AV) (a : Addr) (n cap : Nat) (u : Nat -> Nat -> Value) (hn : n = xs.length) (fD : n <= cap) (hk : ∀ x ∈ xs,x.cells.length = k)
   (hu : ∀ (i j : Nat) (x c : AV),xs[i]? = some x -> x.cells[j]? = some c -> R (a.add (i * k + j)) (u i j))
   (h : ∀ (i j : Nat) (x c : AV),xs[i]? = some x -> x.cells[j]? = some c -> bI R [] c (u i j)) : bI R φ (.list k xs) (.slice (some a) n cap)
 | jC (φ : dF) (k : Nat) : bI R φ (.list k []) (.slice none 0 0)
 | dI (φ : dF) (cs : List AV) (a : Addr) (u : Nat -> Value) (hu : ∀ (j : Nat) (c : AV),cs[j]? = some c -> R (a.add j) (u j))
   (h : ∀ (j : Nat) (c : AV),cs[j]? = some c -> bI R [] c (u j)) : bI R φ (.dI cs) (.pointer (some a))
 | ptr (φ : dF) (b off : Nat) (a : Addr) (hb : b < φ.length) (h : ∀ g sz : Nat,φ[b]? = some (some (g,sz)) -> a = ⟨g,off,none⟩) : bI R φ (.ptr b off) (.pointer (some a))
 | sl (φ : dF) (k b off len : Nat) (a : Addr) (cap : Nat) (hb : b < φ.length) (hc : len <= cap)
   (h : ∀ g sz : Nat,φ[b]? = some (some (g,sz)) -> (0 < cap -> a = ⟨g,off,none⟩) /\ off + cap * k <= sz) : bI R φ (.sl k b off len) (.slice (some a) len cap)

theorem aV {α : Type} {l : List α} {i : Nat} (h : i < l.length) : ∃ x,l[i]? = some x := ⟨l[i],List.getElem?_eq_getElem h⟩
theorem cv {α : Type} {l : Array α} {i : Nat} (h : i < l.size) : ∃ x,l[i]? = some x := ⟨l[i],dX h⟩
theorem au {α : Type} {l : List α} {i : Nat} {x : α} (h : l[i]? = some x) : i < l.length := (List.getElem?_eq_some_iff.1 h).1
theorem kn {α : Type} {l : Array α} {i : Nat} {x : α} (h : l[i]? = some x) : i < l.size := (dG.1 h).1

structure uQ (φ φ' : dF) : Prop where
 len : φ.length <= φ'.length
 HT : ∀ (b : Nat) (p : Nat × Nat),b < φ.length -> φ'[b]? = some (some p) -> φ[b]? = some (some p)
theorem uQ.refl (φ : dF) : uQ φ φ := ⟨aT _,fun _ _ _ h => h⟩
theorem uQ.trans {a b c : dF} (h : uQ a b) (k : uQ b c) : uQ a c :=
 ⟨GI h.len k.len,fun i p hi hp => h.HT i p hi (k.HT i p (fj hi h.len) hp)⟩

theorem bI.mono {R R' : Addr -> Value -> Prop} (hR : ∀ a u,R a u -> R' a u) {φ : dF} {x : AV} {v : Value} (h : bI R φ x v) : ∀ {φ' : dF},uQ φ φ' -> bI R' φ' x v := by
 induction h with
 | any => intro φ' _; exact .any _ _
 | undef => intro φ' _; exact .undef _
 | fk => intro φ' _; exact .fk _
 | fu => intro φ' _; exact .fu _
 | dJ => intro φ' _; exact .dJ _
 | int => intro φ' _; exact .int _ _ _
 | bool => intro φ' _; exact .bool _ _
 | str => intro φ' _; exact .str _ _
 | agg φ cs vs hl h ih => intro φ' hp; exact .agg _ _ _ hl fun i c v h1 h2 => ih i c v h1 h2 hp
 | dD φ cs vs hl h ih => intro φ' hp; exact .dD _ _ _ hl fun i c v h1 h2 => ih i c v h1 h2 hp
 | func φ f as va bs vb zE zD ha hb iha VJ => intro φ' hp; exact .func _ _ _ _ _ _ zE zD (fun i c v h1 h2 => iha i c v h1 h2 hp) (fun i c v h1 h2 => VJ i c v h1 h2 hp)
 | qC φ k xs a n cap u hn fD hk hu h ih => intro φ' _; exact .qC _ _ _ _ _ _ u hn fD hk (fun i j x c h1 h2 => hR _ _ (hu i j x c h1 h2)) (fun i j x c h1 h2 => ih i j x c h1 h2 (.refl _))
 | jC => intro φ' _; exact .jC _ _
 | dI φ cs a u hu h ih => intro φ' _; exact .dI _ _ _ u (fun j c h1 => hR _ _ (hu j c h1)) (fun j c h1 => ih j c h1 (.refl _))
 | ptr φ b off a hb h => intro φ' hp; exact .ptr _ _ _ _ (fj hb hp.len) fun g sz hg => h g sz (hp.HT _ _ hb hg)
 | sl φ k b off len a cap hb hc h => intro φ' hp; exact .sl _ _ _ _ _ _ _ (fj hb hp.len) hc fun g sz hg => h g sz (hp.HT _ _ hb hg)

theorem oG {cs : List AV} (h : pO cs = true) : ∀ (i : Nat) (c : AV),cs[i]? = some c -> c.plain = true := by
 induction cs with
 | nil => intro i c hc; simp at hc
 | cons x r ih =>
   simp only [pO,aa] at h;intro i c hc;cases i with
   | zero => simp at hc; subst hc; exact h.1
   | succ i => simp at hc; exact ih h.2 i c hc
theorem vD {cs : List AV} (h : FA cs = true) : ∀ (i : Nat) (c : AV),cs[i]? = some c -> c.flat = true := by
 induction cs with
 | nil => intro i c hc; simp at hc
 | cons x r ih =>
   simp only [FA,aa] at h;intro i c hc;cases i with
   | zero => simp at hc; subst hc; exact h.1
   | succ i => simp at hc; exact ih h.2 i c hc
theorem mo {n : Nat} {cs : List AV} (h : nj n cs = true) : ∀ (i : Nat) (c : AV),cs[i]? = some c -> c.tt n = true := by
 induction cs with
 | nil => intro i c hc; simp at hc
 | cons x r ih =>
   simp only [nj,aa] at h;intro i c hc;cases i with
   | zero => simp at hc; subst hc; exact h.1
   | succ i => simp at hc; exact ih h.2 i c hc
theorem uM {cs : List AV} (h : bq cs = true) : ∀ (i : Nat) (c : AV),cs[i]? = some c -> c.leaf = true := by
 induction cs with
 | nil => intro i c hc; simp at hc
 | cons x r ih =>
   simp only [bq,aa] at h;intro i c hc;cases i with
   | zero => simp at hc; subst hc; exact h.1
   | succ i => simp at hc; exact ih h.2 i c hc

theorem bI.dU {R : Addr -> Value -> Prop} {φ : dF} {x : AV} {v : Value} (h : bI R φ x v) : x.plain = true -> ∀ ψ,bI R ψ x v := by
 induction h with
 | any => intro _ ψ; exact .any _ _
 | undef => intro _ ψ; exact .undef _
 | fk => intro _ ψ; exact .fk _
 | fu => intro _ ψ; exact .fu _
 | dJ => intro _ ψ; exact .dJ _
 | int => intro _ ψ; exact .int _ _ _
 | bool => intro _ ψ; exact .bool _ _
 | str => intro _ ψ; exact .str _ _
 | agg φ cs vs hl h ih => intro hp ψ; simp only [AV.plain] at hp; exact .agg _ _ _ hl fun i c v h1 h2 => ih i c v h1 h2 (oG hp i c h1) ψ
 | dD φ cs vs hl h ih => intro hp ψ; simp only [AV.plain] at hp; exact .dD _ _ _ hl fun i c v h1 h2 => ih i c v h1 h2 (oG hp i c h1) ψ
 | func φ f as va bs vb zE zD ha hb iha VJ =>
   intro hp ψ;simp only [AV.plain,aa] at hp;exact .func _ _ _ _ _ _ zE zD (fun i c v h1 h2 => iha i c v h1 h2 (oG hp.1 i c h1) ψ) (fun i c v h1 h2 => VJ i c v h1 h2 (oG hp.2 i c h1) ψ)
 | qC φ k xs a n cap u hn fD hk hu h ih => intro _ ψ; exact .qC _ _ _ _ _ _ u hn fD hk hu h
 | jC => intro _ ψ; exact .jC _ _
 | dI φ cs a u hu h ih => intro _ ψ; exact .dI _ _ _ u hu h
 | ptr => intro hp; simp [AV.plain] at hp
 | sl => intro hp; simp [AV.plain] at hp
theorem bI.of_flat {R : Addr -> Value -> Prop} {φ : dF} {x : AV} {v : Value} (h : bI R φ x v) : x.flat = true -> ∀ (R' : Addr -> Value -> Prop) ψ,bI R' ψ x v := by
 induction h with
 | any => intro _ _ ψ; exact .any _ _
 | undef => intro _ _ ψ; exact .undef _
 | fk => intro _ _ ψ; exact .fk _
 | fu => intro _ _ ψ; exact .fu _
 | dJ => intro _ _ ψ; exact .dJ _
 | int => intro _ _ ψ; exact .int _ _ _
 | bool => intro _ _ ψ; exact .bool _ _
 | str => intro _ _ ψ; exact .str _ _
 | agg φ cs vs hl h ih => intro hp R' ψ; simp only [AV.flat] at hp; exact .agg _ _ _ hl fun i c v h1 h2 => ih i c v h1 h2 (vD hp i c h1) R' ψ
 | dD φ cs vs hl h ih => intro hp R' ψ; simp only [AV.flat] at hp; exact .dD _ _ _ hl fun i c v h1 h2 => ih i c v h1 h2 (vD hp i c h1) R' ψ
 | func φ f as va bs vb zE zD ha hb iha VJ =>
   intro hp R' ψ;simp only [AV.flat,aa] at hp;exact .func _ _ _ _ _ _ zE zD (fun i c v h1 h2 => iha i c v h1 h2 (vD hp.1 i c h1) R' ψ) (fun i c v h1 h2 => VJ i c v h1 h2 (vD hp.2 i c h1) R' ψ)
 | qC => intro hp; simp [AV.flat] at hp
 | jC => intro hp; simp [AV.flat] at hp
 | dI => intro hp; simp [AV.flat] at hp
 | ptr => intro hp; simp [AV.flat] at hp
 | sl => intro hp; simp [AV.flat] at hp
theorem bI.take {R : Addr -> Value -> Prop} {φ : dF} {x : AV} {v : Value} {n : Nat} (h : bI R φ x v) : x.tt n = true -> bI R (φ.take n) x v := by
 induction h with
 | any => intro _; exact .any _ _
 | undef => intro _; exact .undef _
 | fk => intro _; exact .fk _
 | fu => intro _; exact .fu _
 | dJ => intro _; exact .dJ _
 | int => intro _; exact .int _ _ _
 | bool => intro _; exact .bool _ _
 | str => intro _; exact .str _ _
 | agg φ cs vs hl h ih => intro hp; simp only [AV.tt] at hp; exact .agg _ _ _ hl fun i c v h1 h2 => ih i c v h1 h2 (mo hp i c h1)
 | dD φ cs vs hl h ih => intro hp; simp only [AV.tt] at hp; exact .dD _ _ _ hl fun i c v h1 h2 => ih i c v h1 h2 (mo hp i c h1)
 | func φ f as va bs vb zE zD ha hb iha VJ =>
   intro hp;simp only [AV.tt,aa] at hp;exact .func _ _ _ _ _ _ zE zD (fun i c v h1 h2 => iha i c v h1 h2 (mo hp.1 i c h1)) (fun i c v h1 h2 => VJ i c v h1 h2 (mo hp.2 i c h1))
 | qC φ k xs a n cap u hn fD hk hu h ih => intro _; exact .qC _ _ _ _ _ _ u hn fD hk hu h
 | jC => intro _; exact .jC _ _
 | dI φ cs a u hu h ih => intro _; exact .dI _ _ _ u hu h
 | ptr φ b off a hb h =>
   intro hp;have T5 : b < n := by simpa [AV.tt] using hp
   refine .ptr _ _ _ _ (by rw [bh]; omega) fun g sz hg => h g sz ?_;rw [aS T5] at hg;exact hg
 | sl φ k b off len a cap hb hc h =>
   intro hp;have T5 : b < n := by simpa [AV.tt] using hp
   refine .sl _ _ _ _ _ _ _ (by rw [bh]; omega) hc fun g sz hg => h g sz ?_;rw [aS T5] at hg;exact hg
theorem bI.kR {R : Addr -> Value -> Prop} {φ : dF} {x : AV} {v : Value} (h : bI R φ x v) (hl : x.leaf = true) : v.oneCell' = true := by
 cases h <;> first | rfl | simp [AV.leaf] at hl

theorem bI.cells {R : Addr -> Value -> Prop} {φ : dF} {x : AV} {v : Value} (h : bI R φ x v) (hs : bq x.cells = true) :
  x.cells.length = v.cells.size /\ ∀ (i : Nat) (c : AV),x.cells[i]? = some c -> ∃ u,v.cells[i]? = some u /\ bI R φ c u /\ u.oneCell' = true := by
 have one : ∀ {x : AV} {v : Value},x.cells = [x] -> v.cells = #[v] -> bI R φ x v -> bq x.cells = true ->
   x.cells.length = v.cells.size /\ ∀ (i : Nat) (c : AV),x.cells[i]? = some c -> ∃ u,v.cells[i]? = some u /\ bI R φ c u /\ u.oneCell' = true := by
  intro x v hx hv h hs;rw [hx,hv];refine ⟨rfl,fun i c hc => ?_⟩;cases i with
  | zero =>
    simp at hc; subst hc;refine ⟨v,by simp,h,h.kR ?_⟩;rw [hx] at hs; simpa [bq] using hs
  | succ i => simp at hc
 cases h with
 | any => simp [AV.cells,bq,AV.leaf] at hs
 | agg φ cs vs hl h =>
   refine ⟨hl,fun i c hc => ?_⟩;have hi : i < vs.size := hl ▸ au hc;obtain ⟨u,hu⟩ := cv hi;exact ⟨u,hu,h i c u hc hu,(h i c u hc hu).kR (uM hs i c hc)⟩
 | _ => exact one rfl rfl (by first | exact .undef _ | exact .fk _ | exact .fu _ | exact .dJ _ | exact .int _ _ _ | exact .bool _ _ | exact .str _ _ | exact .jC _ _ | (constructor <;> assumption)) hs

structure cJ (X : Nat -> Prop) (φ : dF) (w : World) (H : Heap) : Prop where
 len : φ.length = H.length
 Df : ∀ g,X g -> g < w.heap.size
 live : ∀ (b : Nat) (cs : List AV),H[b]? = some (some cs) -> ∃ (g sz : Nat) (arr : Array Value) (e : TypeId),φ[b]? = some (some (g,sz)) /\ w.heap[g]? = some (.cells arr e (0,0)) /\ arr.size = sz /\ cs.length <= sz /\ ¬ X g /\
  ∀ (i : Nat) (c : AV),cs[i]? = some c -> ∃ u,arr[i]? = some u /\ bI (Rd X φ w) φ c u
 dead : ∀ b : Nat,H[b]? = some none -> φ[b]? = some none
 inj : ∀ b b' g sz lk : Nat,φ[b]? = some (some (g,sz)) -> φ[b']? = some (some (g,lk)) -> b = b'

structure fo (φ : dF) (w : World) (φ' : dF) (w' : World) : Prop where
 os : w'.os = w.os
 tape : w'.tape = w.tape
 output : w'.output = w.output
 drawn : w.drawn <= w'.drawn
 size : w.heap.size <= w'.heap.size
 keep : ∀ g,g < w.heap.size -> ¬ bM φ g -> w'.heap[g]? = w.heap[g]? /\ ¬ bM φ' g
 Tk : uQ φ φ'
theorem fo.refl (φ : dF) (w : World) : fo φ w φ w := ⟨rfl,rfl,rfl,aT _,aT _,fun _ _ h => ⟨rfl,h⟩,.refl _⟩
theorem fo.trans {φ φ' mH : dF} {w w' WK : World} (h : fo φ w φ' w') (k : fo φ' w' mH WK) : fo φ w mH WK :=
 ⟨k.os.trans h.os,k.tape.trans h.tape,k.output.trans h.output,GI h.drawn k.drawn,GI h.size k.size,
  fun g hg ho => ⟨(k.keep g (fj hg h.size) (h.keep g hg ho).2).1.trans (h.keep g hg ho).1,(k.keep g (fj hg h.size) (h.keep g hg ho).2).2⟩,h.Tk.trans k.Tk⟩
theorem fo.rd {X : Nat -> Prop} {φ φ' : dF} {w w' : World} (h : fo φ w φ' w') : ∀ a u,Rd X φ w a u -> Rd X φ' w' a u := by
 intro a u ⟨h1,h2,h3⟩;have bO := World.block_lt_of_cell? w a h3;exact ⟨h1,(h.keep _ bO h2).2,(World.cell?_of_block (h.keep _ bO h2).1).trans h3⟩
theorem fo.rep {X : Nat -> Prop} {φ φ' : dF} {w w' : World} (h : fo φ w φ' w') {x : AV} {v : Value} (r : bI (Rd X φ w) φ x v) : bI (Rd X φ' w') φ' x v := r.mono h.rd h.Tk
theorem fo.drew (φ : dF) (w : World) : fo φ w φ w.drew := ⟨rfl,rfl,rfl,K5 _,aT _,fun _ _ h => ⟨rfl,h⟩,.refl _⟩

def mF (X : Nat -> Prop) (φ : dF) (w : World) (env : Env) (tmps : Array Value) : Prop := ∀ i,bI (Rd X φ w) φ (get env i) (tmps.getD i undef)
theorem bu (env : Env) (d : Nat) (v : AV) (i : Nat) : get (put env d v) i = if i = d then v else get env i := by
 induction env with
 | nil => by_cases h : i = d <;> simp [put,get,h]
 | cons p r ih =>
   obtain ⟨j,u⟩ := p;unfold put;split
   ·by_cases h : i = d <;> simp [get,h]
   ·split
    ·rename_i h1 h2;subst h2;by_cases h : i = d <;> simp [get,h]
    ·rename_i h1 h2;simp only [get,ih];by_cases h : i = j
     ·subst h; simp [Ne.symm h2]
     ·simp [h]
theorem mF.put {X : Nat -> Prop} {φ : dF} {w : World} {env : Env} {tmps : Array Value} (h : mF X φ w env tmps) {d : Nat} (hd : d < tmps.size) {x : AV} {v : Value} (r : bI (Rd X φ w) φ x v) :
  mF X φ w (put env d x) (tmps.setIfInBounds d v) := by
 intro i;rw [bu];by_cases hi : i = d
 ·subst hi;simp [hd,r]
 ·have := h i;simpa [hi,Array.getElem?_setIfInBounds_ne (Ne.symm hi)] using this
theorem mF.lj {X : Nat -> Prop} {φ φ' : dF} {w w' : World} {env : Env} {tmps : Array Value} (h : mF X φ w env tmps) (k : fo φ w φ' w') : mF X φ' w' env tmps := fun i => k.rep (h i)

theorem Addr.add_add (a : Addr) (n m : Nat) : (a.add n).add m = a.add (n + m) := by
 unfold Addr.add;by_cases hn : n = 0
 ·subst hn; simp
 ·by_cases hm : m = 0
  ·subst hm; simp [hn]
  ·simp [hn,hm,Nat.add_assoc]
theorem Addr.gG (g o n : Nat) : Addr.add ⟨g,o,none⟩ n = ⟨g,o + n,none⟩ := Addr.add_lit g o n
end Go.Am

/- The heap relation under the steps of the machine; freezing. -/
namespace Go.Am

theorem uI {H : Heap} {b : Nat} {cs : List AV} (h : aJ H b = some cs) : H[b]? = some (some cs) := by
 unfold aJ at h;split at h
 ·rename_i h'; rw [h']; simpa using h
 ·cases h
theorem cJ.at {X : Nat -> Prop} {φ : dF} {w : World} {H : Heap} (h : cJ X φ w H) {b : Nat} {cs : List AV} (hb : aJ H b = some cs) :
  ∃ (g sz : Nat) (arr : Array Value) (e : TypeId),φ[b]? = some (some (g,sz)) /\ w.heap[g]? = some (.cells arr e (0,0)) /\ arr.size = sz /\ cs.length <= sz /\ ¬ X g /\
   ∀ (i : Nat) (c : AV),cs[i]? = some c -> ∃ u,arr[i]? = some u /\ bI (Rd X φ w) φ c u := h.live b cs (uI hb)

theorem bM.nil (g : Nat) : ¬ bM [] g := fun ⟨b,sz,h⟩ => by simp at h
theorem rm {φ : dF} {p : Nat × Nat} {g : Nat} (h : bM (φ ++ [some p]) g) : bM φ g \/ g = p.1 := by
 obtain ⟨b,sz,hb⟩ := h;by_cases bO : b < φ.length
 ·rw [aq bO] at hb;exact .inl ⟨b,sz,hb⟩
 ·rw [aK (by omega)] at hb
  have h0 : b - φ.length = 0 := by
   have := au hb;simp at this; omega
  rw [h0] at hb;simp at hb;right; rw [hb]
theorem Ah {φ : dF} {b g : Nat} (h : bM (φ.set b none) g) : bM φ g := by
 obtain ⟨c,sz,hc⟩ := h;refine ⟨c,sz,?_⟩;rw [bg] at hc;split at hc
 ·split at hc <;> simp at hc
 ·exact hc

theorem fo.of_same {φ : dF} {w w' : World} {ψ : dF} (h : fo [] w ψ w') : fo φ w φ w' :=
 ⟨h.os,h.tape,h.output,h.drawn,h.size,fun g hg ho => ⟨(h.keep g hg (bM.nil g)).1,ho⟩,.refl _⟩
theorem cJ.of_same {X : Nat -> Prop} {φ : dF} {w w' : World} {H : Heap} {ψ : dF} (h : cJ X φ w H) (a : fo [] w ψ w') : cJ X φ w' H := by
 have k : fo φ w φ w' := fo.of_same a;refine ⟨h.len,fun g hg => fj (h.Df g hg) a.size,fun b cs hb => ?_,h.dead,h.inj⟩;obtain ⟨g,sz,arr,e,h1,h2,h3,h4,h5,h6⟩ := h.live b cs hb;refine ⟨g,sz,arr,e,h1,?_,h3,h4,h5,fun i c hc => ?_⟩
 ·rw [(a.keep g (dG.1 h2).1 (bM.nil g)).1]; exact h2
 ·obtain ⟨u,hu,r⟩ := h6 i c hc;exact ⟨u,hu,k.rep r⟩

theorem cJ.alloc {X : Nat -> Prop} {φ : dF} {w w' : World} {H : Heap} (h : cJ X φ w H) {arr : Array Value} {e : TypeId} (hw : w'.heap = w.heap.push (.cells arr e (0,0)))
  (ho : w'.os = w.os) (ht : w'.tape = w.tape) (hp : w'.output = w.output) {cs : List AV} (hl : cs.length <= arr.size)
  (hc : ∀ (i : Nat) (c : AV),cs[i]? = some c -> ∃ u,arr[i]? = some u /\ bI (Rd X φ w) φ c u) (hd : w.drawn <= w'.drawn) :
  cJ X (φ ++ [some (w.heap.size,arr.size)]) w' (H ++ [some cs]) /\ fo φ w (φ ++ [some (w.heap.size,arr.size)]) w' := by
 have own : ∀ g,bM φ g -> g < w.heap.size := by
  intro g ⟨b,sz,hb⟩;have bO : b < H.length := h.len ▸ au hb;obtain ⟨x,hx⟩ := aV bO;cases x with
  | none => rw [h.dead b hx] at hb; simp at hb
  | some cs =>
    obtain ⟨g',lk,arr,e,h1,h2,_⟩ := h.live b cs hx;rw [h1] at hb;simp at hb;rw [<- hb.1];exact (dG.1 h2).1
 have a : fo φ w (φ ++ [some (w.heap.size,arr.size)]) w' := by
  refine ⟨ho,ht,hp,hd,by rw [hw]; simp,fun g hg hn => ⟨?_,?_⟩,⟨by simp,fun b p hb hp => ?_⟩⟩
  ·rw [hw,yt,if_neg (by omega)]
  ·intro ho;rcases rm ho with h1 | h1
   ·exact hn h1
   ·simp at h1; omega
  ·rwa [aq hb] at hp
 refine ⟨⟨by simp [h.len],fun g hg => ?_,fun b ds hb => ?_,fun b hb => ?_,fun b b' g sz lk h1 h2 => ?_⟩,a⟩
 ·rw [hw]; have := h.Df g hg; simp; omega
 ·by_cases bO : b < H.length
  ·rw [aq bO] at hb;obtain ⟨g,sz,ar,e',h1,h2,h3,h4,h5,h6⟩ := h.live b ds hb;refine ⟨g,sz,ar,e',by rw [aq (by rw [h.len]; exact bO)]; exact h1,?_,h3,h4,h5,fun i c hc => ?_⟩
   ·rw [hw,yt,if_neg (by have := (dG.1 h2).1; omega)]; exact h2
   ·obtain ⟨u,hu,r⟩ := h6 i c hc;exact ⟨u,hu,a.rep r⟩
  ·have im := au hb;simp at im;have xU : b = H.length := by omega
   subst xU;simp at hb;subst hb;refine ⟨w.heap.size,arr.size,arr,e,by rw [<- h.len]; simp,by rw [hw]; simp,rfl,hl,fun hx => by have := h.Df _ hx; omega,fun i c hi => ?_⟩;obtain ⟨u,hu,r⟩ := hc i c hi;exact ⟨u,hu,a.rep r⟩
 ·by_cases bO : b < H.length
  ·rw [aq bO] at hb;rw [aq (by rw [h.len]; exact bO)];exact h.dead b hb
  ·have im := au hb;simp at im;have xU : b = H.length := by omega
   subst xU;simp at hb
 ·have new : ∀ (b g sz : Nat),(φ ++ [some (w.heap.size,arr.size)])[b]? = some (some (g,sz)) -> (b < φ.length /\ φ[b]? = some (some (g,sz)) /\ g < w.heap.size) \/ (b = φ.length /\ g = w.heap.size) := by
   intro b g sz hb;by_cases bO : b < φ.length
   ·rw [aq bO] at hb;exact .inl ⟨bO,hb,own g ⟨b,sz,hb⟩⟩
   ·have im := au hb;simp at im;have xU : b = φ.length := by omega
    subst xU;simp at hb;exact .inr ⟨rfl,hb.1.symm⟩
  rcases new b g sz h1 with ⟨l1,e1,g1⟩ | ⟨l1,g1⟩ <;> rcases new b' g lk h2 with ⟨l2,e2,g2⟩ | ⟨l2,g2⟩
  ·exact h.inj b b' g sz lk e1 e2
  ·omega
  ·omega
  ·omega

theorem cJ.store {X : Nat -> Prop} {φ : dF} {w w' : World} {H : Heap} (h : cJ X φ w H) {b g sz : Nat} {arr arr' : Array Value} {e : TypeId} {cs' : List AV}
  (jK : φ[b]? = some (some (g,sz))) (hg : w.heap[g]? = some (.cells arr e (0,0))) (kM : arr.size = sz) (hs : arr'.size = arr.size) (hw : w' = w.setRow g arr') (hX : ¬ X g)
  (hl : cs'.length <= arr'.size) (hc : ∀ (i : Nat) (c : AV),cs'[i]? = some c -> ∃ u,arr'[i]? = some u /\ bI (Rd X φ w) φ c u) :
  cJ X φ w' (H.set b (some cs')) /\ fo φ w φ w' := by
 subst hw;have a : fo φ w φ (w.setRow g arr') := ⟨rfl,rfl,rfl,aT _,by simp,fun k _ ho => ⟨setRow_other w g k _ (fun e => ho ⟨b,sz,e ▸ jK⟩),ho⟩,.refl _⟩;refine ⟨⟨by simp [h.len],fun k hk => by simpa using h.Df k hk,fun c ds hb => ?_,fun c hb => ?_,h.inj⟩,a⟩
 ·rw [bg] at hb;split at hb
  ·rename_i GD;subst GD;split at hb
   ·simp at hb;subst hb;refine ⟨g,sz,arr',e,jK,setRow_heap w g arr arr' e _ hg,by omega,by omega,hX,fun i c hi => ?_⟩;obtain ⟨u,hu,r⟩ := hc i c hi;exact ⟨u,hu,a.rep r⟩
   ·simp at hb
  ·rename_i GD;obtain ⟨g',lk,ar,e',h1,h2,h3,h4,h5,h6⟩ := h.live c ds hb;refine ⟨g',lk,ar,e',h1,?_,h3,h4,h5,fun i c hi => ?_⟩
   ·rw [setRow_other w g g' _ (fun eq => GD (h.inj b c g sz lk jK (eq ▸ h1)))]; exact h2
   ·obtain ⟨u,hu,r⟩ := h6 i c hi;exact ⟨u,hu,a.rep r⟩
 ·rw [bg] at hb;split at hb
  ·split at hb <;> simp at hb
  ·exact h.dead c hb

theorem cJ.aag {X : Nat -> Prop} {φ : dF} {w : World} {H : Heap} (h : cJ X φ w H) (b : Nat) : cJ X (φ.set b none) w (H.set b none) /\ fo φ w (φ.set b none) w := by
 have a : fo φ w (φ.set b none) w := by
  refine ⟨rfl,rfl,rfl,aT _,aT _,fun g _ ho => ⟨rfl,fun hx => ho (Ah hx)⟩,⟨by simp,fun c p hc hp => ?_⟩⟩;rw [bg] at hp;split at hp
  ·split at hp <;> simp at hp
  ·exact hp
 refine ⟨⟨by simp [h.len],h.Df,fun c ds hb => ?_,fun c hb => ?_,fun c c' g sz lk h1 h2 => ?_⟩,a⟩
 ·rw [bg] at hb;split at hb
  ·split at hb <;> simp at hb
  ·rename_i GD;obtain ⟨g',lk,ar,e',h1,h2,h3,h4,h5,h6⟩ := h.live c ds hb;refine ⟨g',lk,ar,e',?_,h2,h3,h4,h5,fun i c hi => ?_⟩
   ·rw [bg,if_neg GD]; exact h1
   ·obtain ⟨u,hu,r⟩ := h6 i c hi;exact ⟨u,hu,a.rep r⟩
 ·rw [bg] at hb ⊢;split at hb
  ·rename_i GD;rw [if_pos GD];split at hb
   ·rename_i bO;rw [if_pos (by rw [h.len]; exact bO)]
   ·simp at hb
  ·rename_i GD;rw [if_neg GD];exact h.dead c hb
 ·have un : ∀ (c g sz : Nat),(φ.set b none)[c]? = some (some (g,sz)) -> φ[c]? = some (some (g,sz)) := by
   intro c g sz hc;rw [bg] at hc;split at hc
   ·split at hc <;> simp at hc
   ·exact hc
  exact h.inj c c' g sz lk (un c g sz h1) (un c' g lk h2)
def Ow : dF -> List Nat -> dF
 | φ,[] => φ
 | φ,b :: r => Ow (φ.set b none) r
theorem cJ.kill {X : Nat -> Prop} {w : World} : ∀ (bs : List Nat) {φ : dF} {H : Heap},cJ X φ w H -> cJ X (Ow φ bs) w (kill H bs) /\ fo φ w (Ow φ bs) w
 | [],φ,H,h => ⟨h,.refl _ _⟩
 | b :: r,φ,H,h => by
   obtain ⟨h1,a1⟩ := h.aag b;obtain ⟨h2,a2⟩ := cJ.kill r h1;exact ⟨h2,a1.trans a2⟩
theorem H6 : ∀ (bs : List Nat) (φ : dF) (c : Nat) (p : Nat × Nat),(Ow φ bs)[c]? = some (some p) -> φ[c]? = some (some p) /\ c ∉ bs
 | [],φ,c,p,h => ⟨h,by simp⟩
 | b :: r,φ,c,p,h => by
   obtain ⟨h1,h2⟩ := H6 r (φ.set b none) c p h;rw [bg] at h1;split at h1
   ·split at h1 <;> simp at h1
   ·rename_i GD;exact ⟨h1,by simp [h2]; exact fun e => GD e.symm⟩

theorem cJ.move {X : Nat -> Prop} {φ : dF} {w w' : World} {H : Heap} (h : cJ X φ w H) {b g sz : Nat} {arr arr' : Array Value} {e : TypeId} {cs' : List AV}
  (jK : φ[b]? = some (some (g,sz))) (hg : w.heap[g]? = some (.cells arr e (0,0))) (kM : arr.size = sz) (hs : arr'.size = arr.size) (hw : w' = w.setRow g arr') (hX : ¬ X g)
  (hl : cs'.length <= arr'.size) (hc : ∀ (i : Nat) (c : AV),cs'[i]? = some c -> ∃ u,arr'[i]? = some u /\ bI (Rd X φ w) φ c u) :
  cJ X (φ.set b none ++ [some (g,sz)]) w' (H.set b none ++ [some cs']) /\ fo φ w (φ.set b none ++ [some (g,sz)]) w' := by
 subst hw;have hbl : b < φ.length := au jK
 have look : ∀ (c : Nat) (p : Nat × Nat),(φ.set b none ++ [some (g,sz)])[c]? = some (some p) -> (c < φ.length /\ c ≠ b /\ φ[c]? = some (some p)) \/ (c = φ.length /\ p = (g,sz)) := by
  intro c p hc;by_cases bO : c < φ.length
  ·rw [aq (by simpa using bO),bg] at hc;split at hc
   ·simp_all
   ·rename_i GD; exact .inl ⟨bO,fun e => GD e.symm,hc⟩
  ·have im := au hc;simp at im;have xU : c = φ.length := by omega
   subst xU;rw [aK (by simp)] at hc;simp at hc;exact .inr ⟨rfl,hc.symm⟩
 have a : fo φ w (φ.set b none ++ [some (g,sz)]) (w.setRow g arr') := by
  refine ⟨rfl,rfl,rfl,aT _,by simp,fun k _ ho => ⟨setRow_other w g k _ (fun e => ho ⟨b,sz,e ▸ jK⟩),?_⟩,⟨by simp,fun c p hc hp => ?_⟩⟩
  ·intro ⟨c,s,hc⟩;rcases look c _ hc with ⟨_,_,h1⟩ | ⟨_,h1⟩
   ·exact ho ⟨c,s,h1⟩
   ·simp at h1; exact ho ⟨b,sz,h1.1 ▸ jK⟩
  ·rcases look c p hp with ⟨_,_,h1⟩ | ⟨h1,_⟩
   ·exact h1
   ·omega
 refine ⟨⟨by simp [h.len],fun k hk => by simpa using h.Df k hk,fun c ds hb => ?_,fun c hb => ?_,fun c c' k s s' h1 h2 => ?_⟩,a⟩
 ·by_cases bO : c < H.length
  ·rw [aq (by simpa using bO),bg] at hb;split at hb
   ·split at hb <;> simp at hb
   ·rename_i GD;obtain ⟨g',lk,ar,e',h1,h2,h3,h4,h5,h6⟩ := h.live c ds hb;refine ⟨g',lk,ar,e',?_,?_,h3,h4,h5,fun i c hi => ?_⟩
    ·rw [aq (by simp [h.len,bO]),bg,if_neg GD]; exact h1
    ·rw [setRow_other w g g' _ (fun eq => GD (h.inj b c g sz lk jK (eq ▸ h1)))]; exact h2
    ·obtain ⟨u,hu,r⟩ := h6 i c hi;exact ⟨u,hu,a.rep r⟩
  ·have im := au hb;simp at im;have xU : c = H.length := by omega
   subst xU;rw [aK (by simp)] at hb;simp at hb;subst hb;refine ⟨g,sz,arr',e,?_,setRow_heap w g arr arr' e _ hg,by omega,by omega,hX,fun i c hi => ?_⟩
   ·rw [aK (by simp [h.len])]; simp [h.len]
   ·obtain ⟨u,hu,r⟩ := hc i c hi;exact ⟨u,hu,a.rep r⟩
 ·by_cases bO : c < H.length
  ·rw [aq (by simpa using bO),bg] at hb;rw [aq (by simp [h.len,bO]),bg];split at hb
   ·rename_i GD;rw [if_pos GD,if_pos (by omega)]
   ·rename_i GD;rw [if_neg GD]; exact h.dead c hb
  ·have im := au hb;simp at im;have xU : c = H.length := by omega
   subst xU;rw [aK (by simp)] at hb;simp at hb
 ·rcases look c _ h1 with ⟨l1,n1,e1⟩ | ⟨l1,e1⟩ <;> rcases look c' _ h2 with ⟨l2,n2,e2⟩ | ⟨l2,e2⟩
  ·exact h.inj c c' k s s' e1 e2
  ·simp at e2; exact absurd (h.inj c b k s sz e1 (e2.1 ▸ jK)) n1
  ·simp at e1; exact absurd (h.inj c' b k s' sz e2 (e1.1 ▸ jK)) n2
  ·omega

theorem xR {n : Nat} : ∀ {H : Heap},xS n H = true -> ∀ (b : Nat) (cs : List AV),H[b]? = some (some cs) -> nj n cs = true
 | [],_,b,cs,hb => by simp at hb
 | none :: r,h,b,cs,hb => by
   cases b with
   | zero => simp at hb
   | succ b => simp at hb; exact xR (H := r) (by simpa [xS] using h) b cs hb
 | some ds :: r,h,b,cs,hb => by
   simp only [xS,aa] at h;cases b with
   | zero => simp at hb; subst hb; exact h.1
   | succ b => simp at hb; exact xR (H := r) h.2 b cs hb
theorem EL {φ : dF} {n g : Nat} (h : bM (φ.take n) g) : bM φ g := by
 obtain ⟨b,sz,hb⟩ := h;rw [bf] at hb;split at hb
 ·exact ⟨b,sz,hb⟩
 ·simp at hb
theorem Sd {X : Nat -> Prop} {φ : dF} {w : World} {n : Nat} : ∀ a u,Rd X φ w a u -> Rd X (φ.take n) w a u := fun _ _ ⟨h1,h2,h3⟩ => ⟨h1,fun h => h2 (EL h),h3⟩
theorem cJ.take {X : Nat -> Prop} {φ : dF} {w : World} {H : Heap} (h : cJ X φ w H) {n : Nat} (hn : n <= H.length) (dy : xS n (H.take n) = true) : cJ X (φ.take n) w (H.take n) := by
 refine ⟨by simp [h.len],h.Df,fun b cs hb => ?_,fun b hb => ?_,fun b b' g sz lk h1 h2 => ?_⟩
 ·have hr := xR dy b cs hb;have bO : b < n := by have := au hb; simp at this; omega
  rw [aS bO] at hb;obtain ⟨g,sz,ar,e,h1,h2,h3,h4,h5,h6⟩ := h.live b cs hb;refine ⟨g,sz,ar,e,by rw [aS bO]; exact h1,h2,h3,h4,h5,fun i c hi => ?_⟩;obtain ⟨u,hu,r⟩ := h6 i c hi;exact ⟨u,hu,(r.take (mo hr i c hi)).mono Sd (.refl _)⟩
 ·have bO : b < n := by have := au hb; simp at this; omega
  rw [aS bO] at hb ⊢;exact h.dead b hb
 ·rw [bf] at h1 h2;split at h1 <;> split at h2 <;> first | exact h.inj b b' g sz lk h1 h2 | (first | simp at h1 | simp at h2)
theorem fo.take {φ φ' : dF} {w w' : World} (h : fo φ w φ' w') : fo φ w (φ'.take φ.length) w' :=
 ⟨h.os,h.tape,h.output,h.drawn,h.size,fun g hg ho => ⟨(h.keep g hg ho).1,fun hx => (h.keep g hg ho).2 (EL hx)⟩,
  ⟨by rw [bh]; have := h.Tk.len; omega,fun b p hb hp => h.Tk.HT b p hb (by rwa [aS hb] at hp)⟩⟩

/-! Freezing -/
theorem qA {f : AV -> Option (AV × List Nat)} : ∀ {xs ys : List AV} {bs : List Nat},As f xs = some (ys,bs) ->
  ys.length = xs.length /\ ∀ (i : Nat) (x : AV),xs[i]? = some x -> ∃ y b,f x = some (y,b) /\ ys[i]? = some y /\ ∀ c ∈ b,c ∈ bs
 | [],ys,bs,h => by simp [As] at h; obtain ⟨rfl,rfl⟩ := h; exact ⟨rfl,fun i x hx => by simp at hx⟩
 | x :: r,ys,bs,h => by
   simp only [As] at h;split at h
   ·rename_i y b RE bs' h1 h2;simp at h;obtain ⟨rfl,rfl⟩ := h;obtain ⟨hl,hm⟩ := qA h2;refine ⟨by simp [hl],fun i z hz => ?_⟩;cases i with
    | zero => simp at hz; subst hz; exact ⟨y,b,h1,by simp,fun c hc => by simp [hc]⟩
    | succ i =>
      simp at hz;obtain ⟨y',b',e1,e2,e3⟩ := hm i z hz;exact ⟨y',b',e1,by simpa using e2,fun c hc => by simp [e3 c hc]⟩
   ·cases h
theorem qI (l : List AV) : (el l).cells = l := by
 unfold el;split <;> first | rfl | skip
 rename_i x hx;cases x <;> first | rfl | (exact absurd rfl (hx _))
theorem Ft (k : Nat) : ∀ (n : Nat) (ys : List AV),n * k <= ys.length -> (PA k n ys).length = n /\ ∀ (i : Nat) (x : AV),(PA k n ys)[i]? = some x -> x.cells = (ys.drop (i * k)).take k /\ i < n
 | 0,ys,_ => ⟨rfl,fun i x hx => by simp [PA] at hx⟩
 | n + 1,ys,h => by
   have h' : n * k <= (ys.drop k).length := by rw [c9]; rw [cq] at h; omega
   obtain ⟨hl,hm⟩ := Ft k n (ys.drop k) h';refine ⟨by simp [PA,hl],fun i x hx => ?_⟩;cases i with
   | zero => simp [PA] at hx; subst hx; rw [qI]; simp
   | succ i =>
     simp [PA] at hx;obtain ⟨e1,e2⟩ := hm i x hx;refine ⟨?_,by omega⟩;rw [e1,List.drop_drop];congr 2;rw [cq]; omega
theorem gY {w : World} {g : Nat} {arr : Array Value} {e : TypeId} {fr : Nat × Nat} (h : w.heap[g]? = some (.cells arr e fr)) (o : Nat) : w.cell? ⟨g,o,none⟩ = arr[o]? := cell_of_row w g o arr e fr h

theorem C6 {X : Nat -> Prop} {φ : dF} {w : World} {H : Heap} (h : cJ X φ w H) {R : Addr -> Value -> Prop} (hR : ∀ a u,Rd X φ w a u -> R a u) :
  ∀ (n : Nat) (x y : AV) (v : Value) (bs : List Nat),AW H n x = some (y,bs) ->
   (∀ b ∈ bs,∀ g sz : Nat,φ[b]? = some (some (g,sz)) -> ∀ o u,w.cell? ⟨g,o,none⟩ = some u -> R ⟨g,o,none⟩ u) -> bI (Rd X φ w) φ x v -> bI R [] y v
 | 0,_,_,_,_,hf,_,_ => by simp [AW] at hf
 | n + 1,x,y,v,bs,hf,hb,r => by
   have ih := C6 h hR n
   have many : ∀ {cs ys : List AV} {bs' : List Nat} {vs : Array Value},As (AW H n) cs = some (ys,bs') -> (∀ b ∈ bs',b ∈ bs) -> cs.length = vs.size ->
     (∀ (i : Nat) (c : AV) (v : Value),cs[i]? = some c -> vs[i]? = some v -> bI (Rd X φ w) φ c v) ->
     ys.length = vs.size /\ ∀ (i : Nat) (c : AV) (v : Value),ys[i]? = some c -> vs[i]? = some v -> bI R [] c v := by
    intro cs ys bs' vs hm AK hl hr;obtain ⟨AO,VR⟩ := qA hm;refine ⟨by omega,fun i c v hc hv => ?_⟩;obtain ⟨x,hx⟩ := aV (l := cs) (i := i) (by have := au hc; omega);obtain ⟨y,b,e1,e2,e3⟩ := VR i x hx;rw [e2] at hc;simp at hc;subst hc;exact ih x _ v b e1 (fun b' im => hb b' (AK _ (e3 b' im))) (hr i x v hx hv)
   cases x with
   | ptr b off =>
     simp only [AW] at hf;split at hf
     ·rename_i cs dC;split at hf
      ·rename_i ys bs' hm;simp at hf;obtain ⟨rfl,rfl⟩ := hf;obtain ⟨g,sz,arr,e,h1,h2,h3,h4,h5,h6⟩ := h.at dC;obtain ⟨AO,VR⟩ := qA hm;cases r with
       | ptr _ _ _ a hbl ha =>
         obtain rfl := ha g sz h1;refine .dI _ _ _ (fun j => arr[off + j]?.getD undef) (fun j c hc => ?_) (fun j c hc => ?_)
         ·obtain ⟨x,hx⟩ := aV (l := cs.drop off) (i := j) (by have := au hc; omega);rw [aQ] at hx;obtain ⟨u,hu,_⟩ := h6 _ _ hx;rw [Addr.gG];refine hb b (by simp) g sz h1 _ _ ?_;rw [gY h2,hu]; simp
         ·obtain ⟨x,hx⟩ := aV (l := cs.drop off) (i := j) (by have := au hc; omega);obtain ⟨y,b',e1,e2,e3⟩ := VR j x hx;rw [e2] at hc;simp at hc;subst hc;rw [aQ] at hx;obtain ⟨u,hu,r⟩ := h6 _ _ hx;refine ih x _ _ b' e1 (fun c hc => hb c (by simp [e3 c hc])) ?_;rw [hu]; exact r
      ·cases hf
     ·cases hf
   | sl k b off len =>
     simp only [AW] at hf;split at hf
     ·rename_i cs dC;split at hf
      ·rename_i jX;split at hf
       ·rename_i ys bs' hm;simp at hf;obtain ⟨rfl,rfl⟩ := hf;obtain ⟨g,sz,arr,e,h1,h2,h3,h4,h5,h6⟩ := h.at dC;obtain ⟨AO,VR⟩ := qA hm;have CW : ys.length = len * k := by rw [AO,bh,c9]; omega
        obtain ⟨gl,gm⟩ := Ft k len ys (by omega);cases r with
        | sl _ _ _ _ _ a cap hbl hc ha =>
          obtain ⟨OK,fD⟩ := ha g sz h1;by_cases AR : 0 < cap
          case neg =>
           have OA : len = 0 := by omega
           subst OA;refine .qC _ _ _ _ _ _ (fun _ _ => undef) gl.symm hc (fun x hx => ?_) (fun i j x c hx hc => ?_) (fun i j x c hx hc => ?_)
           all_goals simp [PA] at hx
          obtain rfl := OK AR
          have key : ∀ (i j : Nat) (x c : AV),(PA k len ys)[i]? = some x -> x.cells[j]? = some c -> i * k + j < len * k /\ j < k /\ ys[i * k + j]? = some c := by
           intro i j x c hx hc;obtain ⟨e1,e2⟩ := gm i x hx;rw [e1,bf] at hc;split at hc
           ·rename_i hj;rw [aQ] at hc;have := au hc;exact ⟨by omega,hj,hc⟩
           ·cases hc
          refine .qC _ _ _ _ _ _ (fun i j => arr[off + (i * k + j)]?.getD undef) gl.symm hc (fun x hx => ?_) (fun i j x c hx hc => ?_) (fun i j x c hx hc => ?_)
          ·obtain ⟨i,hi⟩ := br hx;obtain ⟨e1,e2⟩ := gm i x hi;rw [e1,bh,c9,CW];have : i * k + k <= len * k := by rw [<- Nat.succ_mul]; exact bD _ e2
           omega
          ·obtain ⟨k1,k2,k3⟩ := key i j x c hx hc;obtain ⟨z,hz⟩ := aV (l := (cs.drop off).take (len * k)) (i := i * k + j) (by have := au k3; omega);rw [aS k1,aQ] at hz;obtain ⟨u,hu,_⟩ := h6 _ _ hz;rw [Addr.gG];refine hb b (by simp) g sz h1 _ _ ?_;rw [gY h2,hu]; simp
          ·obtain ⟨k1,k2,k3⟩ := key i j x c hx hc;obtain ⟨z,hz⟩ := aV (l := (cs.drop off).take (len * k)) (i := i * k + j) (by have := au k3; omega);obtain ⟨y,b',e1,e2,e3⟩ := VR _ z hz;rw [e2] at k3;simp at k3;subst k3;rw [aS k1,aQ] at hz;obtain ⟨u,hu,r⟩ := h6 _ _ hz;refine ih z _ _ b' e1 (fun c hc => hb c (by simp [e3 c hc])) ?_;rw [hu]; exact r
       ·cases hf
      ·cases hf
     ·cases hf
   | agg cs =>
     simp only [AW] at hf;split at hf
     ·rename_i ys bs' hm;simp at hf;obtain ⟨rfl,rfl⟩ := hf;cases r with
      | agg _ _ vs hl hr =>
        obtain ⟨l1,r1⟩ := many hm (fun _ h => h) hl hr;exact .agg _ _ _ l1 r1
     ·cases hf
   | dD cs =>
     simp only [AW] at hf;split at hf
     ·rename_i ys bs' hm;simp at hf;obtain ⟨rfl,rfl⟩ := hf;cases r with
      | dD _ _ vs hl hr =>
        obtain ⟨l1,r1⟩ := many hm (fun _ h => h) hl hr;exact .dD _ _ _ l1 r1
     ·cases hf
   | func f as cs =>
     simp only [AW] at hf;split at hf
     ·rename_i ys bs1 zs bs2 hm1 hm2;simp at hf;obtain ⟨rfl,rfl⟩ := hf;cases r with
      | func _ _ _ va _ vb zE zD ha im =>
        obtain ⟨l1,r1⟩ := many hm1 (fun _ h => by simp [h]) zE ha;obtain ⟨l2,r2⟩ := many hm2 (fun _ h => by simp [h]) zD im;exact .func _ _ _ _ _ _ l1 l2 r1 r2
     ·cases hf
   | _ =>
     simp only [AW,ah,aF] at hf;obtain ⟨rfl,rfl⟩ := hf;exact (r.dU rfl []).mono hR (.refl _)
end Go.Am

/- The check that ties compact operations to the operations of the dump. -/
namespace Go.Am

def IA : Value -> AV -> Bool
 | .bool a,.bool b => a == b
 | .int k n,.int k' m => decide (k = k') && decide (n = m)
 | .slice none 0 0,.dJ => true
 | .pointer none,.fk => true
 | .nilFunc,.fu => true
 | .tuple vs,.undef => vs.isEmpty
 | _,_ => false
def oS : List Value -> List AV -> Bool
 | [],[] => true
 | v :: r,x :: s => IA v x && oS r s
 | _,_ => false
def chkV : Value -> AV -> Bool
 | .agg cs,.agg ds => oS cs.toList ds
 | v,x => IA v x
def dv : Operand -> E -> Bool
 | .tmp t,.t i => decide (t = i)
 | .const v,.k x => chkV v x
 | .func f,.k (.func (.func g) [] []) => decide (f = g)
 | .global g,.g i => decide (g = i)
 | _,_ => false
def iM : List Operand -> List E -> Bool
 | [],[] => true
 | x :: r,y :: s => dv x y && iM r s
 | _,_ => false
def oV : Option Operand -> Option E -> Bool
 | none,none => true
 | some x,some y => dv x y
 | _,_ => false
def oT (place : Nat -> Option (Nat × Nat)) : List (Nat × Operand) -> List (Nat × Nat × E) -> Bool
 | [],[] => true
 | (i,x) :: r,(off,sz,y) :: s => decide (place i = some (off,sz)) && dv x y && oT place r s
 | _,_ => false

def mD (P : Program) (t : TypeId) : Option (Option Nat) :=
 match P.underlying t with
 | some (.struct _) | some (.array _ _) => match P.info? t with
   | some i => some (some i.size)
   | none => none
 | some _ => some none
 | none => none
def lI (P : Program) (t : TypeId) (k : Nat) : Bool :=
 match P.info? t with
 | some i => decide (i.size = k)
 | none => false
def mI (P : Program) (t : TypeId) (zs : List AV) : Bool :=
 match P.info? t with
 | some i => match i.zero with
   | some z => oS z.cells.toList zs && bq zs
   | none => false
 | none => false
def iD (P : Program) (t : TypeId) (k : Nat) : Bool :=
 match P.underlying t with
 | some (.slice e) => match P.info? e with
   | some i => decide (i.size = k) && decide (0 < k) && decide (i.bytes <= 1024) && (match i.zero with
     | some z => decide (z.cells.size = k)
     | none => false)
   | none => false
 | _ => false
def gX (P : Program) (t : TypeId) (zs : List AV) : Bool :=
 match P.underlying t with
 | some (.slice e) => mI P e zs
 | _ => false
def pn (P : Program) (fs : Array Field) (i : Nat) : Option (Nat × Nat) :=
 match fs[i]? with
 | some f => match P.info? f.type with
   | some j => some (f.offset,j.size)
   | none => none
 | none => none
def AY (P : Program) : Nat -> List Field -> List Bool -> Bool
 | _,[],[] => true
 | o, f :: r, b :: s => decide (f.offset = o) && decide (f.name ≠ "_") && (match P.underlying f.type with
   | some (.int _) => b
   | some .bool => !b
   | _ => false) && AY P (o + 1) r s
 | _,_,_ => false
def FT (P : Program) (t : TypeId) : Et -> Bool
 | .bool => match P.underlying t with
   | some .bool => true
   | _ => false
 | .Pt => match P.underlying t with
   | some (.slice _) => true
   | _ => false
 | .EX => match P.underlying t with
   | some (.pointer _) => true
   | _ => false
 | .nfn => match P.underlying t with
   | some (.func _ _ _) => true
   | _ => false
 | .str l => match P.underlying t with
   | some (.struct fs) => !P.stoodInHeld t && !P.eqGuardType P.depth t && AY P 0 fs.toList l
   | _ => false
def isSlice (P : Program) (t : TypeId) : Bool :=
 match P.underlying t with
 | some (.slice _) => true
 | _ => false

def eqOp : BinOp -> Bool -> Bool
 | .eql,ng => !ng
 | .neq,ng => ng
 | _,_ => false
def dm (P : Program) : Op -> Kd -> Bool
 | .move x,.mv y => dv x y
 | .assign x,.mv y => dv x y
 | .pick c a b,.pick c' a' b' => dv c c' && dv a a' && dv b b'
 | .alloc t,.new zs => mI P t zs
 | .box _ x,.box y => dv x y
 | .build t ps,.build zs qs => mI P t zs && (match P.underlying t with
   | some (.struct fs) => (fs.toList.all fun f => (P.info? f.type).isSome) && oT (pn P fs) ps.toList qs
   | some (.array _ e) => match P.info? e with
     | some i => oT (fun j => some (j * i.size,i.size)) ps.toList qs
     | none => false
   | _ => false)
 | .buildSlice t n ps,.eE k m zs qs => decide (n = m) && iD P t k && gX P t zs && decide (n * k <= 16777216) && oT (fun j => some (j * k,k)) ps.toList qs
 | .load t a,.ld ag y => decide (mD P t = some ag) && dv a y
 | .store t a v,.st k b y => lI P t k && dv a b && dv v y
 | .nilCheck x,.kU y => dv x y
 | .binOp op _ x y _,.bin op' x' y' => decide (op = op') && dv x x' && dv y y'
 | .binOp op t x y _,.eq ng et x' y' => eqOp op ng && FT P t et && dv x x' && dv y y'
 | .unOp op _ x,.un op' y => decide (op = op') && dv x y
 | .convert s d x,.CB k y => (P.underlying s).isSome && (match P.underlying d with
   | some (.int k') => decide (k = k')
   | _ => false) && dv x y
 | .makeFunc fn as bs,.TK fn' cs ds => decide (fn = fn') && iM as.toList cs && iM bs.toList ds
 | .makeSlice t l c,.Kn k zs l' c' => iD P t k && gX P t zs && dv l l' && dv c c'
 | .slice t x lo hi none,.rT k y lo' v7 => iD P t k && dv x y && oV lo lo' && oV hi v7
 | .fieldAddr s x f,.cC off y => (match P.underlying s with
   | some (.struct fs) => match fs[f]? with
     | some fd => decide (fd.offset = off) && (match P.info? fd.type with
       | some i => decide (i.size ≠ 0)
       | none => false)
     | none => false
   | _ => false) && dv x y
 | .field s x f,.V9 off ag y => (match P.underlying s with
   | some (.struct fs) => match fs[f]? with
     | some fd => decide (fd.offset = off) && decide (mD P fd.type = some ag)
     | none => false
   | _ => false) && dv x y
 | .indexAddr t x i,.gw k y j => iD P t k && dv x y && dv i j
 | .indexAddr t x i,.Fi n k y j => (match P.underlying t with
   | some (.array n' e) => decide (n = n') && lI P e k
   | _ => false) && dv x y && dv i j
 | .index t x i,.ix n k ag y j => (match P.underlying t with
   | some (.array n' e) => decide (n = n') && lI P e k && decide (mD P e = some ag)
   | _ => false) && dv x y && dv i j
 | .index t (.const (.string s)) i,.VE tab j => (match P.underlying t with
   | some .string => true
   | _ => false) && decide (s.data.toList.map (·.toNat) = tab) && dv i j
 | .call { callee := .builtin .clear,args,argTypes },.Ur k zs x => (match args.toList,argTypes.toList with
   | [x'],[t] => iD P t k && gX P t zs && dv x' x
   | _,_ => false)
 | .extract x i,.ext j y => decide (i = j) && dv x y
 | .call { callee := .value (.func f),args,argTypes := _ },.call g xs => decide (f = g) && iM args.toList xs
 | .call { callee := .value x,args,argTypes := _ },.jr y xs => dv x y && iM args.toList xs
 | .call { callee := .builtin .len,args,argTypes },.len y => (match args.toList,argTypes.toList with
   | [x],[t] => isSlice P t && dv x y
   | _,_ => false)
 | .call { callee := .builtin .append,args,argTypes },.app k x y => (match args.toList,argTypes.toList with
   | [x',y'],[t,t'] => decide (t = t') && iD P t k && dv x' x && dv y' y
   | _,_ => false)
 | .call { callee := .builtin .min,args,argTypes := _ },.min xs => iM args.toList xs
 | .call { callee := .builtin .max,args,argTypes := _ },.max xs => iM args.toList xs
 | .slice t x none hi none,.IK n y v7 => (match P.underlying t with
   | some (.array n' e) => decide (n = n') && lI P e 1
   | _ => false) && (dv x y && oV hi v7)
 | .call { callee := .builtin .copy,args,argTypes },.copy k x y => (match args.toList,argTypes.toList with
   | [x',y'],[t,_] => iD P t k && dv x' x && dv y' y
   | _,_ => false)
 | _,.bad => true
 | _,_ => false

def KP (P : Program) (N : Nat) (ops : Array Oper) (o : Oper) (q : O) : Bool :=
 decide (o.dst = q.dst) && (match q.dst with
  | some d => decide (d < N)
  | none => true) && (match o.guard,q.guard with
  | none,none => true
  | some (j,want),some (g,adA) => decide ((ops[j]?).bind (·.dst) = some g) && decide (want = adA)
  | _,_ => false) && dm P o.op q.kd
def aeQ (P : Program) (N : Nat) (ops : Array Oper) : List Oper -> List O -> Bool
 | [],[] => true
 | o :: r,q :: s => KP P N ops o q && aeQ P N ops r s
 | _,_ => false
def jk (x y : O) : Bool :=
 (match x.dst with
  | some d => !mem d y.reads && decide (y.dst ≠ some d)
  | none => true) &&
 (match y.dst with
  | some d => !mem d x.reads
  | none => true)
def jB (i j : Nat) : List (Nat × Nat) -> Bool
 | [] => false
 | p :: r => (decide (p.1 = i) && decide (p.2 = j)) || jB i j r
def direct (y : Oper) : List Nat := (y.after.toList.filter fun e => Region.binds .any e).map (·.on)
def dedup : List Nat -> List Nat
 | [] => []
 | x :: r => if mem x (dedup r) then dedup r else x :: dedup r
def Gm (zr : List (List Nat)) (y : Oper) : List Nat := dedup (direct y ++ (dedup (direct y)).flatMap fun i => zr.getD i [])
def adi (un : List (Nat × Nat)) (i j : Nat) (x : O) (ys : List Nat) (q : O) : Bool := mem i ys || (jk x q && (x.kd.pure || q.kd.pure || jB i j un))
def IB (un : List (Nat × Nat)) (j : Nat) (ys : List Nat) (q : O) : Nat -> List O -> Bool
 | _,[] => true
 | i,x :: r => adi un i j x ys q && IB un j ys q (i + 1) r
def O7 (un : List (Nat × Nat)) (zr : List (List Nat)) (seen : List O) : List Oper -> List O -> Bool
 | y :: r,q :: s => ((direct y).all fun i => decide (i < seen.length)) && IB un seen.length (Gm zr y) q 0 seen && O7 un (zr ++ [Gm zr y]) (seen ++ [q]) r s
 | _,_ => true
def chk (P : Program) (N : Nat) : Code -> C -> Bool
 | .skip,.skip => true
 | .ret,.ret => true
 | .exit i,.exit j => decide (i = j)
 | .region _ ops d,.aH os dr un _ => decide (d = dr) && aeQ P N ops ops.toList os && (!dr || O7 un [] [] ops.toList os)
 | .seq a b,.seq x y => chk P N a x && chk P N b y
 | .cond c a b,.cond c' x y => dv c c' && chk P N a x && chk P N b y
 | .block i b,.aJ j x => decide (i = j) && chk P N b x
 | .loop b,.loop x => chk P N b x
 | .label _,.skip => true
 | .scope b,.seq .skip x => chk P N b x
 | _,_ => false
def chkR (P : Program) : ResultVar -> Rv -> Bool
 | .tmp t,.t i => decide (t = i)
 | .cell a t,.c i ag => decide (a = i) && decide (mD P t = some ag)
 | _,_ => false
def Cg (P : Program) : List ResultVar -> List Rv -> Bool
 | [],[] => true
 | x :: r,y :: s => chkR P x y && Cg P r s
 | _,_ => false
def chkF (P : Program) (fn : Func) (q : eR) : Bool :=
 decide (fn.ntmps = q.n) && !(fn.name == "runtime.NumGoroutine") && Cg P fn.results.toList q.res && (match fn.body with
  | some c => chk P q.n c q.body
  | none => false)
structure Po (P : Program) (c : eG) : Prop where
 mixed : P.follows .mixedOrders = true
 fn : ∀ f m q,c.fn f = some (m,q) -> ∃ fn,P.funcs[f]? = some fn /\ chkF P fn q = true
end Go.Am

/- What one operation of the dump does is what the compact operation says: the operations that call nothing. -/
namespace Go.Am

def ek (c : eG) (X : Nat -> Prop) (φ : dF) (w : World) : Prop := ∀ g,bI (Rd X φ w) [] (.dI (c.gl g)) (.pointer (some ⟨g,0,none⟩))
theorem ek.lj {c : eG} {X : Nat -> Prop} {φ φ' : dF} {w w' : World} (h : ek c X φ w) (a : fo φ w φ' w') : ek c X φ' w' := fun g => (h g).mono a.rd (.refl _)

def Ok (P : Program) (X : Nat -> Prop) (φ : dF) (w : World) (o : Oper) (a : Act) (v : AV) (H' : Heap) : Prop :=
 ∀ (K : Act -> World -> Prop) (Q : Exit -> Act -> World -> Prop),(∀ v' w' φ',bI (Rd X φ' w') φ' v v' -> cJ X φ' w' H' -> fo φ w φ' w' -> K (a.put o.dst v') w') -> o.wp P a w K Q

section
variable {P : Program} {c : eG} {X : Nat -> Prop} {φ : dF} {w : World} {env : Env} {H : Heap} {a : Act} {o : Oper}

theorem Ok.value {v : AV} {v' : Value} {w' : World} {H' : Heap} {φ' : dF} (hr : (execOp a.eval o).run P w = .ok (.value v') w') (r : bI (Rd X φ' w') φ' v v') (h : cJ X φ' w' H') (k : fo φ w φ' w') : Ok P X φ w o a v H' := by
 intro K Q hK;unfold Oper.wp;rw [hr];exact hK v' w' φ' r h k
theorem Ok.quiet {v : AV} {v' : Value} (hr : (execOp a.eval o).run P w = .ok (.value v') w) (r : bI (Rd X φ w) φ v v') (h : cJ X φ w H) : Ok P X φ w o a v H := Ok.value hr r h (.refl _ _)
theorem Ok.skip {w' : World} {H' : Heap} {φ' : dF} (hr : (execOp a.eval o).run P w = .ok .skip w') (h : cJ X φ' w' H') (k : fo φ w φ' w') : Ok P X φ w o a .undef H' := by
 intro K Q hK;unfold Oper.wp;rw [hr];exact hK undef w' φ' (.undef _) h k

theorem Iz {R : Addr -> Value -> Prop} {ψ : dF} {v : Value} {x : AV} (h : IA v x = true) : bI R ψ x v := by
 unfold IA at h;split at h
 ·simp at h; subst h; exact .bool _ _
 ·simp at h; obtain ⟨rfl,rfl⟩ := h; exact .int _ _ _
 ·exact .dJ _
 ·exact .fk _
 ·exact .fu _
 ·rename_i vs;have : vs = #[] := by simpa using h
  subst this;exact .undef _
 ·cases h
theorem A7 {R : Addr -> Value -> Prop} {ψ : dF} : ∀ {vs : List Value} {xs : List AV},oS vs xs = true -> xs.length = vs.length /\ ∀ (i : Nat) (x : AV) (v : Value),xs[i]? = some x -> vs[i]? = some v -> bI R ψ x v
 | [],[],_ => ⟨rfl,fun i x v hx => by simp at hx⟩
 | [],_ :: _,h => by simp [oS] at h
 | _ :: _,[],h => by simp [oS] at h
 | v :: r,x :: s,h => by
   simp only [oS,aa] at h;obtain ⟨hl,hm⟩ := A7 (R := R) (ψ := ψ) h.2;refine ⟨by simp [hl],fun i y u hy hu => ?_⟩;cases i with
   | zero => simp at hy hu; subst hy; subst hu; exact Iz h.1
   | succ i => simp at hy hu; exact hm i y u hy hu
theorem aaT {R : Addr -> Value -> Prop} {ψ : dF} {v : Value} {x : AV} (h : chkV v x = true) : bI R ψ x v := by
 unfold chkV at h;split at h
 ·rename_i cs ds;obtain ⟨hl,hm⟩ := A7 (R := R) (ψ := ψ) h;exact .agg _ _ _ (by simpa using hl) fun i x v hx hv => hm i x v hx (by simpa using hv)
 ·exact Iz h
theorem b7 (he : mF X φ w env a.tmps) (hg : ek c X φ w) {x : Operand} {y : E} (h : dv x y = true) : bI (Rd X φ w) φ (ev c env y) (a.eval x) := by
 unfold dv at h;split at h
 ·simp at h; subst h; exact he _
 ·exact aaT h
 ·simp at h; subst h;exact .func _ _ _ _ _ _ rfl rfl (fun i c v hc => by simp at hc) (fun i c v hc => by simp at hc)
 ·simp at h; subst h; exact (hg _).dU rfl _
 ·cases h

def pY (X : Nat -> Prop) (φ : dF) (w : World) (xs : List AV) (vs : Array Value) : Prop := xs.length = vs.size /\ ∀ (i : Nat) (x : AV) (v : Value),xs[i]? = some x -> vs[i]? = some v -> bI (Rd X φ w) φ x v
theorem l7 (he : mF X φ w env a.tmps) (hg : ek c X φ w) : ∀ {xs : List Operand} {ys : List E},iM xs ys = true ->
  (C7 c env ys).length = xs.length /\ ∀ (i : Nat) (x : AV) (v : Value),(C7 c env ys)[i]? = some x -> (xs.map a.eval)[i]? = some v -> bI (Rd X φ w) φ x v
 | [],[],_ => ⟨rfl,fun i x v hx => by simp [C7] at hx⟩
 | [],_ :: _,h => by simp [iM] at h
 | _ :: _,[],h => by simp [iM] at h
 | x :: r,y :: s,h => by
   simp only [iM,aa] at h;obtain ⟨hl,hm⟩ := l7 he hg h.2;refine ⟨by simp [C7,hl],fun i z v hz hv => ?_⟩;cases i with
   | zero => simp [C7] at hz hv; subst hz; subst hv; exact b7 he hg h.1
   | succ i => simp [C7] at hz; simp at hv; exact hm i z v hz (by simpa using hv)

/-! Places -/
def Lk (X : Nat -> Prop) (φ : dF) (w : World) (cs : List AV) (ad : Addr) : Prop := ∀ (j : Nat) (x : AV),cs[j]? = some x -> ∃ u,w.cell? (ad.add j) = some u /\ bI (Rd X φ w) φ x u
theorem bI.E4 {R : Addr -> Value -> Prop} {x : AV} {v : Value} (h : bI R [] x v) (φ : dF) : bI R φ x v := h.mono (fun _ _ h => h) ⟨Nat.zero_le _,fun b p hb => by simp at hb⟩
theorem Lk.Ty {cs : List AV} {v : Value} (h : bI (Rd X φ w) φ (.dI cs) v) : ∃ ad,v = .pointer (some ad) /\ Lk X φ w cs ad := by
 cases h with
 | dI _ _ ad u hu h => exact ⟨ad,rfl,fun j x hx => ⟨u j,(hu j x hx).2.2,(h j x hx).E4 φ⟩⟩
theorem Lk.QD (hh : cJ X φ w H) {b off : Nat} {cs : List AV} (hb : aJ H b = some cs) {v : Value} (h : bI (Rd X φ w) φ (.ptr b off) v) :
  ∃ g sz arr e,v = .pointer (some ⟨g,off,none⟩) /\ φ[b]? = some (some (g,sz)) /\ w.heap[g]? = some (.cells arr e (0,0)) /\ arr.size = sz /\ cs.length <= sz /\ ¬ X g /\
   (∀ (i : Nat) (c : AV),cs[i]? = some c -> ∃ u,arr[i]? = some u /\ bI (Rd X φ w) φ c u) /\ Lk X φ w (cs.drop off) ⟨g,off,none⟩ := by
 obtain ⟨g,sz,arr,e,h1,h2,h3,h4,h5,h6⟩ := hh.at hb;cases h with
 | ptr _ _ _ ad hbl hp =>
   obtain rfl := hp g sz h1;refine ⟨g,sz,arr,e,rfl,h1,h2,h3,h4,h5,h6,fun j x hx => ?_⟩;rw [aQ] at hx;obtain ⟨u,hu,r⟩ := h6 _ _ hx;exact ⟨u,by rw [Addr.gG,gY h2]; exact hu,r⟩
theorem Lk.values {cs : List AV} {ad : Addr} (h : Lk X φ w cs ad) : ∀ n,n <= cs.length -> ∃ vs : List Value,vs.length = n /\ (∀ (j : Nat) (v : Value),vs[j]? = some v -> w.cell? (ad.add j) = some v) /\
  ∀ (j : Nat) (x : AV) (v : Value),(cs.take n)[j]? = some x -> vs[j]? = some v -> bI (Rd X φ w) φ x v
 | 0,_ => ⟨[],rfl,fun j v hv => by simp at hv,fun j x v hx => by simp at hx⟩
 | n + 1,hn => by
   obtain ⟨vs,hl,h1,h2⟩ := Lk.values h n (by omega);obtain ⟨x,hx⟩ := aV (l := cs) (i := n) (by omega);obtain ⟨u,hu,r⟩ := h n x hx;refine ⟨vs ++ [u],by simp [hl],fun j v hv => ?_,fun j y v hy hv => ?_⟩
   ·by_cases hj : j < vs.length
    ·rw [aq hj] at hv; exact h1 j v hv
    ·have bO := au hv;simp at bO;have hje : j = n := by omega
     subst hje;rw [aK (by omega)] at hv;simp [hl] at hv;subst hv;exact hu
   ·by_cases hj : j < vs.length
    ·rw [aq hj] at hv;rw [aS (by omega)] at hy;exact h2 j y v (by rw [aS (by omega)]; exact hy) hv
    ·have bO := au hv;simp at bO;have hje : j = n := by omega
     subst hje;rw [aK (by omega)] at hv;simp [hl] at hv;subst hv;rw [aS (by omega),hx] at hy;simp at hy;subst hy;exact r

theorem th {t : TypeId} {i : TypeInfo} (h : P.info? t = some i) : (typeInfo t).run P w = .ok i w := by simp [typeInfo,h]
theorem iy {t : TypeId} {i : TypeInfo} (h : P.info? t = some i) : (sizeOf t).run P w = .ok i.size w := by simp [sizeOf,th h]
theorem qi {t : TypeId} {i : TypeInfo} {z : Value} (h : P.info? t = some i) (hz : i.zero = some z) : (zeroValue t).run P w = .ok z w := by simp [zeroValue,th h,hz]

theorem Gp {t : TypeId} {k : Nat} (h : mD P t = some (some k)) : ∃ i,P.info? t = some i /\ i.size = k /\ (isAgg t).run P w = .ok true w := by
 unfold mD at h;split at h
 ·rename_i fs hu;split at h
  ·rename_i i hi;exact ⟨i,hi,by simpa using h,by simp [isAgg,run_underlying hu]⟩
  ·cases h
 ·rename_i n e hu;split at h
  ·rename_i i hi;exact ⟨i,hi,by simpa using h,by simp [isAgg,run_underlying hu]⟩
  ·cases h
 ·simp at h
 ·cases h
theorem rR {t : TypeId} (h : mD P t = some none) : (isAgg t).run P w = .ok false w := by
 unfold mD at h;split at h
 ·split at h <;> simp at h
 ·split at h <;> simp at h
 ·rename_i d h1 h2 hu;simp only [isAgg,Sem.run_bind,run_underlying hu,Result.andThen_ok];rfl
 ·cases h
theorem Ko {t : TypeId} {ag : Option Nat} (ha : mD P t = some ag) {cs : List AV} {x : AV} (hx : zQ ag cs = some x) {ad : Addr} (hp : Lk X φ w cs ad) :
  ∃ v,(loadVar t ad).run P w = .ok v w /\ bI (Rd X φ w) φ x v := by
 cases ag with
 | some k =>
   obtain ⟨i,hi,hk,Lh⟩ := Gp (w := w) ha;simp only [zQ] at hx;split at hx
   ·rename_i hle;simp at hx;subst hx;obtain ⟨vs,hl,h1,h2⟩ := hp.values k hle;have hlc := run_loadCells_list (P := P) w ad vs h1;refine ⟨.agg vs.toArray,?_,.agg _ _ _ (by simp [hl]; omega) fun i c v hc hv => h2 i c v hc (by simpa using hv)⟩;simp only [loadVar,Sem.run_bind,Lh,Result.andThen_ok,if_true,iy hi,hk];rw [<- hl,hlc];simp
   ·cases hx
 | none =>
   have Lh := rR (P := P) (w := w) ha;simp only [zQ] at hx;cases cs with
   | nil => simp at hx
   | cons y r =>
     simp at hx;subst hx;obtain ⟨u,hu,r⟩ := hp 0 y rfl;rw [Addr.add_zero'] at hu;refine ⟨u,?_,r⟩;simp only [loadVar,Sem.run_bind,Lh,Result.andThen_ok,bW,if_false,run_load,hu]

theorem Tl {t : TypeId} {ag : Option Nat} (ha : mD P t = some ag) {cs : List AV} {vs : Array Value} (hl : cs.length = vs.size)
  (hr : ∀ (i : Nat) (c : AV) (v : Value),cs[i]? = some c -> vs[i]? = some v -> bI (Rd X φ w) φ c v) {off : Nat} {x : AV} (hx : zQ ag (cs.drop off) = some x) :
  ∃ v,(part t vs off).run P w = .ok v w /\ bI (Rd X φ w) φ x v := by
 cases ag with
 | some k =>
   obtain ⟨i,hi,hk,Lh⟩ := Gp (w := w) ha;simp only [zQ] at hx;split at hx
   ·rename_i hle;simp at hx;subst hx;rw [c9] at hle;refine ⟨.agg (vs.extract off (off + k)),?_,.agg _ _ _ ?_ fun j c v hc hv => ?_⟩
    ·simp only [part,Sem.run_bind,Lh,Result.andThen_ok,if_true,iy hi,hk,Sem.run_pure]
    ·simp only [bh,c9,Array.size_extract]; omega
    ·have hjk : j < k := by have := au hc; simp only [bh] at this; omega
     rw [aS hjk,aQ] at hc
     have hv' : vs[off + j]? = some v := by
      rw [Array.getElem?_extract] at hv;split at hv
      ·exact hv
      ·cases hv
     exact hr _ c v hc hv'
   ·cases hx
 | none =>
   have Lh := rR (P := P) (w := w) ha;simp only [zQ,List.head?_drop] at hx;have bO := au hx;obtain ⟨v,hv⟩ := cv (l := vs) (i := off) (by omega);exact ⟨v,by simp only [part,Sem.run_bind,Lh,Result.andThen_ok,bW,if_false,hv,Sem.run_pure],hr off x v hx hv⟩

theorem gS {k : IntKind} {n : Int} {v : Value} (h : bI (Rd X φ w) φ (.int k n) v) : v = .int k n := by cases h; rfl
theorem mm {b : Bool} {v : Value} (h : bI (Rd X φ w) φ (.bool b) v) : v = .bool b := by cases h; rfl

theorem abu {op : BinOp} {t : TypeId} {k k' : IntKind} {x y : Int} {r : AV} (h : Gc op (.int k x) (.int k' y) = some r) :
  ∃ v,(binOp op t (.int k x) (.int k' y)).run P w = .ok v w /\ ∀ R ψ,bI R ψ r v := by
 cases op <;> simp only [Gc,arith] at h
 case shl =>
  split at h
  ·cases h
  ·rename_i hn;simp at h; subst h;exact ⟨_,by simp [binOp,Op.shift,hn],fun _ _ => .int _ _ _⟩
 case shr =>
  split at h
  ·cases h
  ·rename_i hn;simp at h; subst h;exact ⟨_,by simp [binOp,Op.shift,hn],fun _ _ => .int _ _ _⟩
 all_goals
  split at h
  ·rename_i hk;subst hk
   first
    | (simp at h; subst h; first | exact ⟨_,by simp [go_sem],fun _ _ => .int _ _ _⟩ | exact ⟨_,by simp [go_sem],fun _ _ => .bool _ _⟩)
    | (split at h
       ·cases h
       ·rename_i hn;simp at h; subst h;exact ⟨_,by simp [go_sem,hn],fun _ _ => .int _ _ _⟩)
  ·cases h

theorem acK {l : List Bool} {xs ys : List AV} {e : Bool} (h : sQ (true :: l) xs ys = some e) :
  ∃ k a r b s e',xs = .int k a :: r /\ ys = .int k b :: s /\ sQ l r s = some e' /\ e = (a == b && e') := by
 cases xs with
 | nil => simp [sQ] at h
 | cons x r =>
   cases ys with
   | nil => cases x <;> simp [sQ] at h
   | cons y s =>
     cases x <;> cases y <;> simp [sQ] at h
     rename_i k a k' b;obtain ⟨rfl,h⟩ := h;split at h
     ·rename_i e' he;simp at h;exact ⟨k,a,r,b,s,e',rfl,rfl,he,h.symm⟩
     ·cases h
theorem aaB {l : List Bool} {xs ys : List AV} {e : Bool} (h : sQ (false :: l) xs ys = some e) :
  ∃ a r b s e',xs = .bool a :: r /\ ys = .bool b :: s /\ sQ l r s = some e' /\ e = (a == b && e') := by
 cases xs with
 | nil => simp [sQ] at h
 | cons x r =>
   cases ys with
   | nil => cases x <;> simp [sQ] at h
   | cons y s =>
     cases x <;> cases y <;> simp [sQ] at h
     rename_i a b;split at h
     ·rename_i e' he;simp at h;exact ⟨a,r,b,s,e',rfl,rfl,he,h.symm⟩
     ·cases h
theorem yz (d : Nat) : ∀ (fs : List Field) (l : List Bool) (off : Nat) (xs ys : List AV) (vx vy : Array Value) (e : Bool),AY P off fs l = true -> sQ l (xs.drop off) (ys.drop off) = some e ->
  xs.length = vx.size -> ys.length = vy.size -> (∀ (i : Nat) (c : AV) (v : Value),xs[i]? = some c -> vx[i]? = some v -> bI (Rd X φ w) φ c v) ->
  (∀ (i : Nat) (c : AV) (v : Value),ys[i]? = some c -> vy[i]? = some v -> bI (Rd X φ w) φ c v) -> (Op.eqFields (d + 1) vx vy fs).run P w = .ok e w
 | [],[],off,xs,ys,vx,vy,e,_,he,_,_,_,_ => by
   generalize xs.drop off = a at he;generalize ys.drop off = b at he;cases a <;> cases b <;> simp [sQ] at he
   subst he;rfl
 | [],_ :: _,_,_,_,_,_,_,h,_,_,_,_,_ => by simp [AY] at h
 | _ :: _,[],_,_,_,_,_,_,h,_,_,_,_,_ => by simp [AY] at h
 | f :: fs,b :: l,off,xs,ys,vx,vy,e,h,he,Cv,Cu,hx,hy => by
   simp only [AY,aa,decide_eq_true_eq] at h;obtain ⟨⟨⟨VQ,Ia⟩,Lc⟩,aao⟩ := h;have ih := fun e he => yz d fs l (off + 1) xs ys vx vy e aao he Cv Cu hx hy
   have cell : ∀ (zs : List AV) (vz : Array Value) (z : AV) (r : List AV),zs.length = vz.size -> zs.drop off = z :: r -> (∃ v,vz[off]? = some v) /\ zs[off]? = some z /\ zs.drop (off + 1) = r := by
    intro zs vz z r hl hd
    have h0 : zs[off]? = some z := by
     have h := congrArg (·[0]?) hd;simp only [aQ,List.getElem?_cons_zero,wg] at h;exact h
    refine ⟨cv (by have := au h0; omega),h0,?_⟩;rw [<- List.tail_drop,hd]; rfl
   split at Lc
   ·rename_i k hu;subst Lc;have Lh : mD P f.type = some none := by simp [mD,hu]
    have hna := rR (P := P) (w := w) Lh;obtain ⟨kx,a,r,b',s,e',hdx,Ub,hee,rfl⟩ := acK he;obtain ⟨⟨vx0,hvx⟩,Cp,Lb⟩ := cell xs vx _ _ Cv hdx;obtain ⟨⟨vy0,hvy⟩,hy0,hy1⟩ := cell ys vy _ _ Cu Ub;obtain rfl := gS (hx off _ vx0 Cp hvx);obtain rfl := gS (hy off _ vy0 hy0 hvy);have ih' := ih e' (by rw [Lb,hy1]; exact hee);simp only [Op.eqFields,Ia,ne_eq,not_false_eq_true,if_true,part,Sem.run_bind,hna,Result.andThen_ok,bW,if_false,VQ,hvx,hvy,Sem.run_pure,run_equalIn_int w d f.type kx k a b' hu];cases hab : (a == b') <;> simp [ih']
   ·rename_i hu;simp only [bH] at Lc;subst Lc;have Lh : mD P f.type = some none := by simp [mD,hu]
    have hna := rR (P := P) (w := w) Lh;obtain ⟨a,r,b',s,e',hdx,Ub,hee,rfl⟩ := aaB he;obtain ⟨⟨vx0,hvx⟩,Cp,Lb⟩ := cell xs vx _ _ Cv hdx;obtain ⟨⟨vy0,hvy⟩,hy0,hy1⟩ := cell ys vy _ _ Cu Ub;obtain rfl := mm (hx off _ vx0 Cp hvx);obtain rfl := mm (hy off _ vy0 hy0 hvy);have ih' := ih e' (by rw [Lb,hy1]; exact hee);simp only [Op.eqFields,Ia,ne_eq,not_false_eq_true,if_true,part,Sem.run_bind,hna,Result.andThen_ok,bW,if_false,VQ,hvx,hvy,Sem.run_pure,run_equalIn_bool w d f.type a b' hu];cases hab : (a == b') <;> simp [ih']
   ·cases Lc
end
end Go.Am

/- What one operation of the dump does, continued: memory. -/
set_option linter.unusedSimpArgs false
namespace Go.Am
section
variable {P : Program} {c : eG} {X : Nat -> Prop} {φ : dF} {w : World} {env : Env} {H : Heap} {a : Act} {o : Oper}

def Cs (X : Nat -> Prop) (φ : dF) (w : World) (cs : List AV) (vs : List Value) : Prop := cs.length = vs.length /\ ∀ (i : Nat) (c : AV) (v : Value),cs[i]? = some c -> vs[i]? = some v -> bI (Rd X φ w) φ c v
theorem Cs.get {cs : List AV} {vs : List Value} (h : Cs X φ w cs vs) {i : Nat} {c : AV} (hc : cs[i]? = some c) : ∃ u,vs[i]? = some u /\ bI (Rd X φ w) φ c u := by
 obtain ⟨u,hu⟩ := aV (l := vs) (i := i) (h.1 ▸ au hc);exact ⟨u,hu,h.2 i c u hc hu⟩
theorem Cs.append {cs ds : List AV} {vs us : List Value} (h : Cs X φ w cs vs) (k : Cs X φ w ds us) : Cs X φ w (cs ++ ds) (vs ++ us) := by
 refine ⟨by simp [h.1,k.1],fun i c v hc hv => ?_⟩;by_cases hi : i < cs.length
 ·rw [aq hi] at hc;rw [aq (h.1 ▸ hi)] at hv;exact h.2 i c v hc hv
 ·rw [aK (by omega)] at hc;rw [aK (by have := h.1; omega)] at hv;rw [h.1] at hc;exact k.2 _ c v hc hv
theorem Cs.take {cs : List AV} {vs : List Value} (h : Cs X φ w cs vs) (n : Nat) : Cs X φ w (cs.take n) (vs.take n) := by
 refine ⟨by simp [h.1],fun i c v hc hv => ?_⟩;have hi : i < n := by have := au hc; simp at this; omega
 rw [aS hi] at hc hv;exact h.2 i c v hc hv
theorem Cs.drop {cs : List AV} {vs : List Value} (h : Cs X φ w cs vs) (n : Nat) : Cs X φ w (cs.drop n) (vs.drop n) := by
 refine ⟨by simp [h.1],fun i c v hc hv => ?_⟩;rw [aQ] at hc hv;exact h.2 _ c v hc hv
theorem Cs.iZ {cs ds : List AV} {vs us : List Value} (h : Cs X φ w cs vs) (k : Cs X φ w ds us) (off : Nat) : Cs X φ w (iZ cs off ds) (vs.take off ++ us ++ vs.drop (off + us.length)) := by
 unfold Am.iZ;rw [<- k.1];exact ((h.take off).append k).append (h.drop _)
theorem bI.cs {x : AV} {v : Value} (h : bI (Rd X φ w) φ x v) (hs : bq x.cells = true) : Cs X φ w x.cells v.cells.toList /\ ∀ u ∈ v.cells.toList,u.oneCell' = true := by
 obtain ⟨hl,hm⟩ := h.cells hs;refine ⟨⟨by simpa using hl,fun i c u hc hu => ?_⟩,fun u hu => ?_⟩
 ·obtain ⟨u',h1,h2,_⟩ := hm i c hc;simp at hu;rw [h1] at hu;simp at hu;subst hu;exact h2
 ·obtain ⟨i,hi⟩ := br hu;obtain ⟨c,hc⟩ := aV (l := x.cells) (i := i) (by have := au hi; simp at this; omega);obtain ⟨u',h1,_,h3⟩ := hm i c hc;simp at hi;rw [h1] at hi;simp at hi;subst hi;exact h3
theorem Cs.kR {cs : List AV} {vs : List Value} (h : Cs X φ w cs vs) (hl : bq cs = true) : ∀ u ∈ vs,u.oneCell' = true := by
 intro u hu;obtain ⟨i,hi⟩ := br hu;obtain ⟨c,hc⟩ := aV (l := cs) (i := i) (by have := au hi; have := h.1; omega);exact (h.2 i c u hc hi).kR (uM hl i c hc)
theorem qc {t : TypeId} {zs : List AV} (h : mI P t zs = true) : ∃ i z,P.info? t = some i /\ i.zero = some z /\ Cs X φ w zs z.cells.toList /\ bq zs = true := by
 unfold mI at h;split at h
 ·rename_i i hi;split at h
  ·rename_i z hz;simp only [aa] at h;exact ⟨i,z,hi,hz,A7 h.1,h.2⟩
  ·cases h
 ·cases h
theorem iL {t : TypeId} {k : Nat} (h : iD P t k = true) : ∃ e i z,P.underlying t = some (.slice e) /\ P.info? e = some i /\ i.size = k /\ 0 < k /\ i.bytes <= 1024 /\ i.zero = some z /\ z.cells.size = k := by
 unfold iD at h;split at h
 ·rename_i e hu;split at h
  ·rename_i i hi;simp only [aa,decide_eq_true_eq] at h;obtain ⟨⟨⟨h1,h2⟩,h3⟩,h4⟩ := h;split at h4
   ·rename_i z hz;exact ⟨e,i,z,hu,hi,h1,h2,h3,hz,by simpa using h4⟩
   ·cases h4
  ·cases h
 ·cases h

theorem qN (hh : cJ X φ w H) {arr : Array Value} {e : TypeId} {cs : List AV} {w1 : World} (hw : w1.heap = w.heap) (ho : w1.os = w.os) (ht : w1.tape = w.tape) (hp : w1.output = w.output)
  (hl : cs.length <= arr.size) (hc : ∀ (i : Nat) (c : AV),cs[i]? = some c -> ∃ u,arr[i]? = some u /\ bI (Rd X φ w) φ c u) (hd : w.drawn <= w1.drawn := by first | exact aT _ | exact K5 _) :
  cJ X (φ ++ [some (w.heap.size,arr.size)]) (w1.alloc (.cells arr e)) (H ++ [some cs]) /\ fo φ w (φ ++ [some (w.heap.size,arr.size)]) (w1.alloc (.cells arr e)) :=
 hh.alloc (w' := w1.alloc (.cells arr e)) (e := e) (by simp [World.alloc,hw]) ho ht hp hl hc hd
theorem Cs.at {cs : List AV} {vs : List Value} {arr : Array Value} (h : Cs X φ w cs vs) (hv : ∀ (i : Nat) (u : Value),vs[i]? = some u -> arr[i]? = some u) : ∀ (i : Nat) (c : AV),cs[i]? = some c -> ∃ u,arr[i]? = some u /\ bI (Rd X φ w) φ c u := by
 intro i c hc;obtain ⟨u,hu,r⟩ := h.get hc;exact ⟨u,hv i u hu,r⟩
theorem TD {R : Addr -> Value -> Prop} {n g sz : Nat} (hn : φ.length = n) : bI R (φ ++ [some (g,sz)]) (.ptr n 0) (.pointer (some ⟨g,0,none⟩)) := by
 refine .ptr _ _ _ _ (by simp [hn]) fun g' lk h => ?_;subst hn;simp at h;rw [h.1]
theorem J9 {R : Addr -> Value -> Prop} {n g sz k len cap : Nat} (hn : φ.length = n) (hc : len <= cap) (hs : cap * k <= sz) : bI R (φ ++ [some (g,sz)]) (.sl k n 0 len) (.slice (some ⟨g,0,none⟩) len cap) := by
 refine .sl _ _ _ _ _ _ _ (by simp [hn]) hc fun g' lk h => ?_;subst hn;simp at h;obtain ⟨rfl,rfl⟩ := h;exact ⟨fun _ => rfl,by omega⟩
theorem TC {R : Addr -> Value -> Prop} {ψ : dF} {n g sz k len cap : Nat} (hn : ψ.length = n) (hc : len <= cap) (hs : cap * k <= sz) : bI R (ψ ++ [some (g,sz)]) (.sl k n 0 len) (.slice (some ⟨g,0,none⟩) len cap) := J9 hn hc hs

theorem Qz {t : TypeId} {zs : List AV} (fc : o.op = .alloc t) (hh : cJ X φ w H) (hz : mI P t zs = true) : Ok P X φ w o a (.ptr H.length 0) (H ++ [some zs]) := by
 obtain ⟨i,z,hi,hz,dC,_⟩ := qc (X := X) (φ := φ) (w := w) hz;obtain ⟨h1,h2⟩ := qN hh (w1 := w) (arr := z.cells) (e := t) rfl rfl rfl rfl (by rw [dC.1]; simp) (dC.at (by simp));refine Ok.value ?_ (TD hh.len) h1 h2;simp [execOp,fc,Instr.alloc,qi hi hz,newVar,newRow]
theorem agS {t : TypeId} {x : Operand} {v : AV} (fc : o.op = .box t x) (hh : cJ X φ w H) (r : bI (Rd X φ w) φ v (a.eval x)) (hs : bq v.cells = true) :
  Ok P X φ w o a (.ptr H.length 0) (H ++ [some v.cells]) := by
 obtain ⟨dC,_⟩ := r.cs hs;obtain ⟨h1,h2⟩ := qN hh (w1 := w) (arr := (a.eval x).cells) (e := t) rfl rfl rfl rfl (by rw [dC.1]; simp) (dC.at (by simp));refine Ok.value ?_ (TD hh.len) h1 h2;simp [execOp,fc,Instr.box,newVar,newRow]

theorem aih {t : TypeId} {x : Operand} {y : E} {ag : Option Nat} {v : AV} {H' : Heap} {fl : Fp} {call : Nat -> List AV -> Heap -> Option (AV × Heap)} (fc : o.op = .load t x) (hh : cJ X φ w H) (r : bI (Rd X φ w) φ (ev c env y) (a.eval x))
  (ha : mD P t = some ag) (hs : fL c call env H (.ld ag y) = some (v,H',fl)) : Ok P X φ w o a v H' := by
 have go : ∀ {cs : List AV} {ad : Addr},a.eval x = .pointer (some ad) -> Lk X φ w cs ad -> zQ ag cs = some v -> Ok P X φ w o a v H := by
  intro cs ad hx hp hv;obtain ⟨u,h1,h2⟩ := Ko ha hv hp;exact Ok.quiet (by simp [execOp,fc,hx,Instr.loadAt,Instr.sureAddr,h1]) h2 hh
 simp only [fL] at hs;split at hs
 ·rename_i cs hc;split at hs
  ·rename_i u hu;simp at hs;obtain ⟨rfl,rfl,rfl⟩ := hs;rw [hc] at r;obtain ⟨ad,h1,h2⟩ := Lk.Ty r;exact go h1 h2 hu
  ·cases hs
 ·rename_i b off hc;split at hs
  ·rename_i cs hb;split at hs
   ·rename_i u hu;simp at hs;obtain ⟨rfl,rfl,rfl⟩ := hs;rw [hc] at r;obtain ⟨g,sz,arr,e,h1,_,_,_,_,_,_,h2⟩ := Lk.QD hh hb r;exact go h1 h2 hu
   ·cases hs
  ·cases hs
 ·cases hs

theorem fS {cs vs : List AV} {off : Nat} (h : off + vs.length <= cs.length) : (iZ cs off vs).length = cs.length := by
 unfold iZ;simp only [bX,bh,c9];omega
theorem abp (l us : List Value) (off n i : Nat) (h : off + us.length <= n) (hn : n <= l.length) (hi : i < n) :
  (l.take off ++ us ++ l.drop (off + us.length))[i]? = ((l.take n).take off ++ us ++ (l.take n).drop (off + us.length))[i]? := by
 have e1 : (l.take off).length = off := by simp; omega
 have e2 : ((l.take n).take off).length = off := by simp; omega
 by_cases h1 : i < off
 ·rw [bK,bK,aq (by omega),aq (by omega),aS h1,aS h1,aS hi]
 ·by_cases h2 : i < off + us.length
  ·have f1 : i < (l.take off ++ us).length := by rw [bX,e1]; omega
   have f2 : i < ((l.take n).take off ++ us).length := by rw [bX,e2]; omega
   rw [aq f1,aq f2,aK (by omega),aK (by omega),e1,e2]
  ·have f1 : (l.take off ++ us).length = off + us.length := by rw [bX,e1]
   have f2 : ((l.take n).take off ++ us).length = off + us.length := by rw [bX,e2]
   rw [aK (by omega),aK (by omega),f1,f2,aQ,aQ,aS (by omega)]
theorem Dg (hh : cJ X φ w H) {b off : Nat} {cs : List AV} (hb : aJ H b = some cs) {v : Value} (r : bI (Rd X φ w) φ (.ptr b off) v) {ds : List AV} {us : List Value} (dC : Cs X φ w ds us)
  (h1 : ∀ u ∈ us,u.oneCell' = true) (jX : off + ds.length <= cs.length) :
  ∃ g w',v = .pointer (some ⟨g,off,none⟩) /\ (storeCells ⟨g,off,none⟩ us).run P w = .ok () w' /\ cJ X φ w' (H.set b (some (iZ cs off ds))) /\ fo φ w φ w' := by
 obtain ⟨g,sz,arr,e,rfl,jK,hg,kM,hle,hX,hm,_⟩ := Lk.QD hh hb r;have yk := run_storeCells_at P g off e us 0 arr w hg (by rw [<- dC.1]; omega) h1;simp only [wg] at yk
 have zb : (arr.toList.take off ++ us ++ arr.toList.drop (off + us.length)).toArray.size = arr.size := by
  simp only [mi,bX,bh,c9,kq,<- dC.1]; omega
 have key : ∀ (i : Nat) (x : AV),(iZ cs off ds)[i]? = some x -> ∃ u,(arr.toList.take off ++ us ++ arr.toList.drop (off + us.length)).toArray[i]? = some u /\ bI (Rd X φ w) φ x u := by
  intro i x hx
  have Cx : Cs X φ w (cs.take cs.length) (arr.toList.take cs.length) := by
   refine ⟨by simp; omega,fun i c u hc hu => ?_⟩;have hi : i < cs.length := by have := au hc; simp at this; omega
   rw [aS hi] at hc hu;obtain ⟨u',h1,h2⟩ := hm i c hc;simp at hu;rw [h1] at hu;simp at hu;subst hu;exact h2
  rw [List.take_length] at Cx;have hov := Cx.iZ dC off;obtain ⟨u,hu,r⟩ := hov.get hx;refine ⟨u,?_,r⟩;have hi : i < cs.length := by have := au hx; rw [fS jX] at this; exact this
  have hul := dC.1;simp only [uT];rw [<- hu];exact abp arr.toList us off cs.length i (by omega) (by simp; omega) hi
 obtain ⟨k1,k2⟩ := hh.store (cs' := iZ cs off ds) (arr' := (arr.toList.take off ++ us ++ arr.toList.drop (off + us.length)).toArray) jK hg kM zb rfl hX
  (by rw [fS jX,zb]; omega) key
 exact ⟨g,_,rfl,yk,k1,k2⟩
theorem Zv {t : TypeId} {x y : Operand} {b off k : Nat} {cs : List AV} {v : AV} (fc : o.op = .store t x y) (hh : cJ X φ w H) (hb : aJ H b = some cs) (hk : lI P t k = true)
  (rx : bI (Rd X φ w) φ (.ptr b off) (a.eval x)) (ry : bI (Rd X φ w) φ v (a.eval y)) (hl : v.cells.length = k) (jX : off + k <= cs.length) (hs : bq v.cells = true) :
  Ok P X φ w o a .undef (H.set b (some (iZ cs off v.cells))) := by
 obtain ⟨dC,h1⟩ := ry.cs hs;obtain ⟨g,w',hx,yk,k1,k2⟩ := Dg (P := P) hh hb rx dC h1 (by omega);refine Ok.skip ?_ k1 k2;unfold lI at hk;split at hk
 ·rename_i i hi;simp at hk;have kM : (a.eval y).cells.size = i.size := by have := dC.1; simp at this; omega
  simp [execOp,fc,hx,Instr.storeAt,Instr.sureAddr,storeVar,iy hi,kM,yk]
 ·cases hk

/-! Composite literals -/
theorem Fz (off : Nat) : ∀ (l : List Value) (n : Nat) (arr : Array Value),
  ((l.zipIdx n).foldl (fun cs (p : Value × Nat) => cs.setIfInBounds (off + p.2) p.1) arr).size = arr.size /\
  (off + n + l.length <= arr.size -> ((l.zipIdx n).foldl (fun cs (p : Value × Nat) => cs.setIfInBounds (off + p.2) p.1) arr).toList = arr.toList.take (off + n) ++ l ++ arr.toList.drop (off + n + l.length))
 | [],n,arr => by simp
 | v :: r,n,arr => by
   simp only [List.zipIdx_cons,List.foldl_cons];obtain ⟨h1,h2⟩ := Fz off r (n + 1) (arr.setIfInBounds (off + n) v);refine ⟨by rw [h1]; simp,fun jX => ?_⟩;simp only [bY] at jX;rw [h2 (by simp; omega)];apply dS;intro i;simp only [Array.toList_setIfInBounds,bY];by_cases h0 : i < off + n
   ·rw [aq (by simp; omega),aq (by simp; omega),aq (by simp; omega),aq (by simp; omega),
     aS (by omega),aS h0,cP (by omega)]
   ·by_cases h3 : i = off + n
    ·subst h3
     rw [aq (by simp; omega),aq (by simp; omega),aq (by simp; omega),aK (by simp; omega),
      aS (by omega),List.getElem?_set_self (by simp; omega)]
     have e1 : (arr.toList.take (off + n)).length = off + n := by simp; omega
     rw [e1]; simp
    ·by_cases h4 : i < off + n + (r.length + 1)
     ·rw [aq (by simp; omega),aK (by simp; omega),aq (by simp; omega),aK (by simp; omega)];have e1 : (arr.toList.take (off + n)).length = off + n := by simp; omega
      have e2 : ((arr.toList.set (off + n) v).take (off + (n + 1))).length = off + n + 1 := by simp; omega
      rw [e1,e2,show i - (off + n) = (i - (off + n + 1)) + 1 by omega,jm]
     ·rw [aK (by simp; omega),aK (by simp; omega),aQ,aQ,cP (by simp; omega)];congr 1;simp only [bX,bh,List.length_set,kq,bY];omega
theorem Wa (v : Value) (off : Nat) (arr : Array Value) (h : off + v.cells.size <= arr.size) :
  (v.cells.zipIdx.foldl (fun cs (p : Value × Nat) => cs.setIfInBounds (off + p.2) p.1) arr).toList = arr.toList.take off ++ v.cells.toList ++ arr.toList.drop (off + v.cells.toList.length) := by
 have h2 := (Fz off v.cells.toList 0 arr).2 (by simpa using h);rw [<- Array.foldl_toList,Array.toList_zipIdx];simpa using h2
theorem pA (he : mF X φ w env a.tmps) (hg : ek c X φ w) {place : Nat -> Option (Nat × Nat)} : ∀ {ps : List (Nat × Operand)} {qs : List (Nat × Nat × E)} {zs cs : List AV} {arr : Array Value},
  oT place ps qs = true -> Cs X φ w zs arr.toList -> mB c env zs qs = some cs -> ∃ arr',Instr.fill place arr (ps.map fun p => (p.1,a.eval p.2)) = some arr' /\ Cs X φ w cs arr'.toList
 | [],[],zs,cs,arr,_,hz,hf => by simp [mB] at hf; subst hf; exact ⟨arr,rfl,hz⟩
 | [],_ :: _,_,_,_,h,_,_ => by simp [oT] at h
 | _ :: _,[],_,_,_,h,_,_ => by simp [oT] at h
 | (i,x) :: r,(off,sz,y) :: s,zs,cs,arr,h,hz,hf => by
   simp only [oT,aa,decide_eq_true_eq] at h;obtain ⟨⟨hp,hx⟩,aao⟩ := h;simp only [mB] at hf;split at hf
   ·rename_i hc;obtain ⟨h1,h2,h3⟩ := hc;obtain ⟨dC,_⟩ := (b7 he hg hx).cs h3;have kM : (a.eval x).cells.size = sz := by have := dC.1; simp at this; omega
    have GV : zs.length = arr.size := by simpa using hz.1
    have ain := Wa (a.eval x) off arr (by omega)
    have OD : Cs X φ w (iZ zs off (ev c env y).cells) ((a.eval x).cells.zipIdx.foldl (fun cs (p : Value × Nat) => cs.setIfInBounds (off + p.2) p.1) arr).toList := by
     rw [ain]; exact hz.iZ dC off
    obtain ⟨arr',e1,e2⟩ := pA he hg aao OD hf;refine ⟨arr',?_,e2⟩;simp only [dR,Instr.fill,hp];rw [if_neg (by simp [kM]; omega)];exact e1
   ·cases hf

theorem run_places (fs : List Field) (h : ∀ f ∈ fs,(P.info? f.type).isSome = true) :
  (fs.mapM (m := Sem) fun f => do pure (f.offset,<- sizeOf f.type)).run P w = .ok (fs.map fun f => (f.offset,((P.info? f.type).map (·.size)).getD 0)) w := by
 induction fs with
 | nil => rfl
 | cons f r ih =>
   obtain ⟨i,hi⟩ := aW.1 (h f (by simp));have ih' := ih fun g hg => h g (by simp [hg]);simp only [List.mapM_cons,Sem.run_bind,iy hi,Result.andThen_ok,Sem.run_pure,ih',dR,hi,Option.map_some,Option.getD_some]
theorem ZE {t : TypeId} {ps : Array (Nat × Operand)} {qs : List (Nat × Nat × E)} {zs cs : List AV} (fc : o.op = .build t ps) (hh : cJ X φ w H) (he : mF X φ w env a.tmps) (hg : ek c X φ w)
  (hz : mI P t zs = true) (hu : (match P.underlying t with
  | some (.struct fs) => (fs.toList.all fun f => (P.info? f.type).isSome) && oT (pn P fs) ps.toList qs
  | some (.array _ e) => match P.info? e with
    | some i => oT (fun j => some (j * i.size,i.size)) ps.toList qs
    | none => false
  | _ => false) = true) (hf : mB c env zs qs = some cs) : Ok P X φ w o a (.agg cs) H := by
 obtain ⟨i,z,hi,hz,dC,_⟩ := qc (X := X) (φ := φ) (w := w) hz;split at hu
 ·rename_i fs hut;simp only [aa,List.all_eq_true] at hu;obtain ⟨arr',e1,e2⟩ := pA he hg hu.2 dC hf;refine Ok.quiet (v' := .agg arr') ?_ (.agg _ _ _ (by simpa using e2.1) fun i c v hc hv => e2.2 i c v hc (by simpa using hv)) hh;have qO := run_places (P := P) (w := w) fs.toList hu.1
  have hpl2 : (fs.mapM (m := Sem) fun f => do pure (f.offset,<- sizeOf f.type)).run P w = .ok (fs.toList.map fun f => (f.offset,((P.info? f.type).map (·.size)).getD 0)).toArray w := by
   rw [<- vL (xs := fs),List.mapM_toArray];simp only [Sem.run_map,qO,Result.andThen_ok,vL]
  have ahb : (fun j => ((fs.toList.map fun f => (f.offset,((P.info? f.type).map (·.size)).getD 0)).toArray)[j]?) = pn P fs := by
   funext j;simp only [uT,dQ,js,pn];cases hfj : fs[j]? with
   | none => rfl
   | some f =>
     obtain ⟨i,hi⟩ := aW.1 (hu.1 f (PH.2 (Array.mem_of_getElem? hfj)));simp [hi]
  simp only [execOp,fc,Instr.build,Sem.run_bind,qi hi hz,Result.andThen_ok,run_underlying hut,hpl2,ahb];have : (Cn (fun x => (x.1,a.eval x.2)) ps).toList = ps.toList.map fun p => (p.1,a.eval p.2) := by simp
  simp only [this,e1,Sem.run_pure,Result.andThen_ok]
 ·rename_i n e hut;split at hu
  ·rename_i ie hie;obtain ⟨arr',e1,e2⟩ := pA he hg hu dC hf;refine Ok.quiet (v' := .agg arr') ?_ (.agg _ _ _ (by simpa using e2.1) fun i c v hc hv => e2.2 i c v hc (by simpa using hv)) hh;have : (Cn (fun x => (x.1,a.eval x.2)) ps).toList = ps.toList.map fun p => (p.1,a.eval p.2) := by simp
   simp only [execOp,fc,Instr.build,Sem.run_bind,qi hi hz,Result.andThen_ok,run_underlying hut,iy hie,this,e1,Sem.run_pure]
  ·cases hu
 ·cases hu

theorem R9 (zs : List AV) : ∀ (n i : Nat),i < n * zs.length -> (rep zs n)[i]? = zs[i % zs.length]?
 | 0,i,h => by simp at h
 | n + 1,i,h => by
   rw [rep];by_cases hi : i < zs.length
   ·rw [aq hi,Nat.mod_eq_of_lt hi]
   ·rw [aK (by omega),R9 zs n _ (by rw [cq] at h; omega),<- Nat.mod_eq_sub_mod (by omega)]
theorem kv (zs : List AV) : ∀ n,(rep zs n).length = n * zs.length
 | 0 => by simp [rep]
 | n + 1 => by rw [rep,bX,kv zs n,cq]; omega
theorem XN {zs : List AV} (h : bq zs = true) : ∀ n,bq (rep zs n) = true := by
 have app : ∀ {a b : List AV},bq a = true -> bq b = true -> bq (a ++ b) = true := by
  intro a
  induction a with
  | nil => intro b _ hb; exact hb
  | cons x r ih => intro b ha hb; simp only [bq,aa,List.cons_append] at *; exact ⟨ha.1,ih ha.2 hb⟩
 intro n
 induction n with
 | zero => rfl
 | succ n ih => exact app h ih
theorem P5 {zs : List AV} {z : Array Value} (h : Cs X φ w zs z.toList) {n m : Nat} (hm : n * z.size <= m) {arr : Array Value} (hz : arr.size = m) (ha : ∀ i,i < m -> arr[i]? = some (z[i % z.size]!)) :
  ∀ (i : Nat) (c : AV),(rep zs n)[i]? = some c -> ∃ u,arr[i]? = some u /\ bI (Rd X φ w) φ c u := by
 intro i c hc;have GV : zs.length = z.size := by simpa using h.1
 have hi : i < n * zs.length := by have := au hc; rwa [kv] at this
 rw [R9 zs n i hi] at hc;rw [GV] at hc hi;refine ⟨_,ha i (by omega),?_⟩;obtain ⟨u,hu,r⟩ := h.get hc;simp at hu;rw [getElem!_def,hu];exact r
theorem Vn {t : TypeId} {n k : Nat} {ps : Array (Nat × Operand)} {qs : List (Nat × Nat × E)} {zs cs : List AV} (fc : o.op = .buildSlice t n ps) (hh : cJ X φ w H) (he : mF X φ w env a.tmps) (hg : ek c X φ w)
  (hk : iD P t k = true) (hz : gX P t zs = true) (hn : n * k <= 16777216) (hq : oT (fun j => some (j * k,k)) ps.toList qs = true) (hf : mB c env (rep zs n) qs = some cs) :
  Ok P X φ w o a (.sl k H.length 0 n) (H ++ [some cs]) := by
 obtain ⟨e,i,z,hu,hi,sP,hk0,hby,OC,Pu⟩ := iL hk;simp only [gX,hu] at hz;obtain ⟨i',z',v7,GW,dC,_⟩ := qc (X := X) (φ := φ) (w := w) hz;rw [hi] at v7;simp at v7;subst v7;rw [OC] at GW;simp at GW;subst GW;have GV : zs.length = k := by have := dC.1; simp at this; omega
 have Cx : Cs X φ w (rep zs n) ((vM (n * k)).map (z.cells[· % z.cells.size]!)).toList := by
  refine ⟨by rw [kv,GV]; simp,fun j c v hc hv => ?_⟩;obtain ⟨u,h1,h2⟩ := P5 dC (n := n) (m := n * k) (by rw [Pu]; omega) (arr := (vM (n * k)).map (z.cells[· % z.cells.size]!)) (by simp) (fun i hi => by simp [hi]) j c hc;rw [js,h1] at hv;simp at hv;subst hv;exact h2
 obtain ⟨arr',e1,e2⟩ := pA he hg hq Cx hf
 have kM : arr'.size = n * k := by
  have fl : ∀ {ps : List (Nat × Nat × E)} {zs cs : List AV},mB c env zs ps = some cs -> cs.length = zs.length := by
   intro ps
   induction ps with
   | nil => intro zs cs h; simp [mB] at h; rw [h]
   | cons p r ih =>
     intro zs cs h;obtain ⟨o,s,y⟩ := p;simp only [mB] at h;split at h
     ·rename_i hc; rw [ih h,fS (by omega)]
     ·cases h
  have h1 := fl hf;have h2 := e2.1;simp only [kq] at h2;rw [<- h2,h1,kv,GV]
 obtain ⟨h1,h2⟩ := qN hh (w1 := w) (arr := arr') (e := e) rfl rfl rfl rfl (by rw [e2.1]; simp) (e2.at (by simp));refine Ok.value ?_ (J9 hh.len (aT n) (by omega)) h1 h2;have sX : (Cn (fun x => (x.1,a.eval x.2)) ps).toList = ps.toList.map fun p => (p.1,a.eval p.2) := by simp
 have Pw : ¬ (n * k > 2 ^ 24) := by have : (2:Nat) ^ 24 = 16777216 := by decide
                                    omega
 have hzero : (if n * i.size = 0 then (pure #[] : Sem (Array Value)) else do pure (<- zeroValue e).cells).run P w = .ok (if n * k = 0 then #[] else z.cells) w := by
  rw [sP];split <;> simp [qi hi OC]
 have ahd : (vM (n * k)).map ((if n * k = 0 then #[] else z.cells)[· % (if n * k = 0 then #[] else z.cells).size]!) = (vM (n * k)).map (z.cells[· % z.cells.size]!) := by
  by_cases h0 : n * k = 0
  ·simp [h0]
  ·simp [h0]
 simp only [execOp,fc,Instr.buildSlice,Sem.run_bind,run_underlying hu,Result.andThen_ok,iy hi,sP,Sem.run_ite,Pw,if_false];rw [sP] at hzero;simp only [Sem.run_ite,Sem.run_bind,Sem.run_pure,qi hi OC,Result.andThen_ok] at hzero ⊢;have e1' := e1;rw [<- ahd,<- sX] at e1';split
 ·rename_i h0;simp only [h0,if_true] at e1' ⊢;simp only [Result.andThen_ok,Array.range_zero',Array.map_empty] at e1' ⊢;rw [show (Instr.fill (fun i => some (i * k,k)) #[] (Cn (fun x => (x.1,a.eval x.2)) ps).toList) = some arr' from e1'];simp [newRow]
 ·rename_i h0;simp only [h0,if_false,Result.andThen_ok] at e1' ⊢;rw [show (Instr.fill (fun i => some (i * k,k)) ((vM (n * k)).map (z.cells[· % z.cells.size]!)) (Cn (fun x => (x.1,a.eval x.2)) ps).toList) = some arr' from e1'];simp [newRow]
end
end Go.Am

/- What one operation of the dump does: numbers, tests, slices, append. -/
namespace Go.Am
section
variable {P : Program} {c : eG} {X : Nat -> Prop} {φ : dF} {w : World} {env : Env} {H : Heap} {a : Act} {o : Oper}

theorem ab6 {x y z : Operand} {t : Bool} {u v : AV} (fc : o.op = .pick x y z) (hh : cJ X φ w H) (r : bI (Rd X φ w) φ (.bool t) (a.eval x)) (ru : bI (Rd X φ w) φ u (a.eval y)) (rv : bI (Rd X φ w) φ v (a.eval z)) :
  Ok P X φ w o a (if t then u else v) H := by
 have hx := mm r;cases t
 ·exact Ok.quiet (v' := a.eval z) (by simp [execOp,fc,hx,asBool]) (by simpa using rv) hh
 ·exact Ok.quiet (v' := a.eval y) (by simp [execOp,fc,hx,asBool]) (by simpa using ru) hh
theorem agT {op : BinOp} {t t' : TypeId} {x y : Operand} {u v r : AV} (fc : o.op = .binOp op t x y t') (hh : cJ X φ w H) (ru : bI (Rd X φ w) φ u (a.eval x)) (rv : bI (Rd X φ w) φ v (a.eval y)) (hr : Gc op u v = some r) :
  Ok P X φ w o a r H := by
 have vZ := hr;unfold Gc at vZ;split at vZ
 ·rename_i k n k' n';have hx := gS ru;have hy := gS rv;obtain ⟨v',h1,h2⟩ := abu (P := P) (w := w) (t := t) hr;exact Ok.quiet (v' := v') (by simp [execOp,fc,hx,hy,eqGuard_at_int,h1]) (h2 _ _) hh
 ·cases vZ

theorem PZ (d : Nat) {t e : TypeId} (h : P.underlying t = some (.slice e)) (x : Option Addr) (n m : Nat) : (Op.equalIn (d + 1) t (.slice x n m) (.slice none 0 0)).run P w = .ok x.isNone w := by
 cases x <;> simp [Op.equalIn,run_underlying h]
theorem LO (d : Nat) {t e : TypeId} (h : P.underlying t = some (.pointer e)) (x : Option Addr) : (Op.equalIn (d + 1) t (.pointer x) (.pointer none)).run P w = .ok x.isNone w := by
 cases x <;> simp [Op.equalIn,run_underlying h]
theorem P3 (d : Nat) {t : TypeId} {ps rs : Array TypeId} {vr : Bool} (h : P.underlying t = some (.func ps rs vr)) (f : Fn) (x y : Array Value) : (Op.equalIn (d + 1) t (.func f x y) .nilFunc).run P w = .ok false w := by
 simp [Op.equalIn,run_underlying h]
theorem LP (d : Nat) {t : TypeId} {ps rs : Array TypeId} {vr : Bool} (h : P.underlying t = some (.func ps rs vr)) : (Op.equalIn (d + 1) t .nilFunc .nilFunc).run P w = .ok true w := by
 simp [Op.equalIn,run_underlying h]
theorem abt {op : BinOp} {ng : Bool} {t : TypeId} {x y : Operand} {u v : Value} {e : Bool} (ho : eqOp op ng = true) (hg : (eqGuard op t x y u v).run P w = .ok () w) (hb : ∀ op',binOp .eql t u v = (do pure (.bool (<- Op.equal t u v))) /\ (op' = BinOp.neq -> binOp .neq t u v = (do pure (.bool (!(<- Op.equal t u v))))))
  (h : (Op.equalIn 10000 t u v).run P w = .ok e w) : (do eqGuard op t x y u v; binOp op t u v).run P w = .ok (.bool (if ng then !e else e)) w := by
 have h' : (Op.equal t u v).run P w = .ok e w := by unfold Op.equal Op.maxDepth; exact h
 cases op <;> simp [eqOp] at ho
 ·subst ho;simp only [Sem.run_bind,hg,Result.andThen_ok,(hb .eql).1,h',Sem.run_pure];simp
 ·subst ho;simp only [Sem.run_bind,hg,Result.andThen_ok,(hb .neq).2 rfl,h',Sem.run_pure];simp
theorem ok_eq {op : BinOp} {ng : Bool} {et : Et} {t t' : TypeId} {x y : Operand} {u v : AV} {e : Bool} (fc : o.op = .binOp op t x y t') (hh : cJ X φ w H) (ho : eqOp op ng = true) (hc : FT P t et = true) (ru : bI (Rd X φ w) φ u (a.eval x)) (rv : bI (Rd X φ w) φ v (a.eval y)) (hr : FC et u v = some e) :
  Ok P X φ w o a (.bool (if ng then !e else e)) H := by
 have fin : ∀ {p q : Value},a.eval x = p -> a.eval y = q -> (eqGuard op t x y p q).run P w = .ok () w ->
   (∀ op',binOp .eql t p q = (do pure (.bool (<- Op.equal t p q))) /\ (op' = BinOp.neq -> binOp .neq t p q = (do pure (.bool (!(<- Op.equal t p q)))))) -> (Op.equalIn 10000 t p q).run P w = .ok e w ->
   Ok P X φ w o a (.bool (if ng then !e else e)) H := by
  intro p q hp hq hg hb h;have := abt (x := x) (y := y) ho hg hb h;refine Ok.quiet ?_ (.bool _ _) hh;simp only [execOp,fc,hp,hq,Sem.run_bind,Result.andThen_ok,Sem.run_pure] at this ⊢;rw [this];rfl
 unfold FC at hr;split at hr
 ·rename_i b b';simp at hr;subst hr;have hx := mm ru;have hy := mm rv;simp only [FT] at hc;split at hc
  ·rename_i hu;refine fin hx hy (by rw [eqGuard_at_bool]; rfl) (fun _ => ⟨by simp [binOp],fun _ => by simp [binOp]⟩) ?_;exact run_equalIn_bool w 9999 t b b' hu
  ·cases hc
 ·rename_i l xs ys;generalize hx : a.eval x = p at ru;generalize hy : a.eval y = q at rv;cases ru with
  | agg _ _ vx Cv hrx =>
    cases rv with
    | agg _ _ vy Cu hry =>
      simp only [FT] at hc;split at hc
      ·rename_i fs hu;simp only [aa,bH] at hc;obtain ⟨⟨Lg,Ic⟩,hc3⟩ := hc;have hfo : P.fieldsOf t = fs := by simp [Program.fieldsOf,hu]
       refine fin hx hy (run_eqGuard_agg w op t x y vx vy Ic) (fun _ => ⟨by simp [binOp],fun _ => by simp [binOp]⟩) ?_;rw [show (10000 : Nat) = 9999 + 1 from rfl,run_equalIn_struct w 9999 t vx vy (by rw [hu,hfo]) Lg,hfo];exact yz 9998 fs.toList l 0 xs ys vx vy e hc3 (by simpa using hr) Cv Cu hrx hry
      ·cases hc
 ·generalize hy : a.eval y = q at rv;cases rv;simp only [FT] at hc;split at hc
  ·rename_i el hu
   have sl : ∀ {ad : Option Addr} {n m : Nat},a.eval x = .slice ad n m -> ad.isNone = e -> Ok P X φ w o a (.bool (if ng then !e else e)) H := by
    intro ad n m hx he;subst he;exact fin hx hy (by rw [eqGuard_at_slice]; rfl) (fun _ => ⟨by simp [binOp],fun _ => by simp [binOp]⟩) (PZ 9999 hu ad n m)
   generalize hx : a.eval x = p at ru;cases ru <;> simp [isNil] at hr
   case dJ => exact sl hx (by simpa using hr)
   case sl => exact sl hx (by simpa using hr)
   case qC xs _ _ _ _ _ _ _ _ _ =>
    cases xs <;> simp [isNil] at hr
    exact sl hx (by simpa using hr)
  ·cases hc
 ·generalize hy : a.eval y = q at rv;cases rv;simp only [FT] at hc;split at hc
  ·rename_i el hu
   have pt : ∀ {ad : Option Addr},a.eval x = .pointer ad -> ad.isNone = e -> Ok P X φ w o a (.bool (if ng then !e else e)) H := by
    intro ad hx he;subst he;exact fin hx hy (by rw [eqGuard_at_pointer]; rfl) (fun _ => ⟨by cases ad <;> simp [binOp],fun _ => by cases ad <;> simp [binOp]⟩) (LO 9999 hu ad)
   generalize hx : a.eval x = p at ru;cases ru <;> simp [isNil] at hr
   case fk => exact pt hx (by simpa using hr)
   case ptr => exact pt hx (by simpa using hr)
   case dI => exact pt hx (by simpa using hr)
  ·cases hc
 ·generalize hy : a.eval y = q at rv;cases rv;simp only [FT] at hc;split at hc
  ·rename_i ps rs vr hu;generalize hx : a.eval x = p at ru;cases ru <;> simp [isNil] at hr
   case fu => subst hr; exact fin hx hy (by rw [eqGuard_at_nilFunc]; rfl) (fun _ => ⟨by simp [binOp],fun _ => by simp [binOp]⟩) (LP 9999 hu)
   case func => subst hr; exact fin hx hy (by rw [eqGuard_at_func]; rfl) (fun _ => ⟨by simp [binOp],fun _ => by simp [binOp]⟩) (P3 9999 hu _ _ _)
  ·cases hc
 ·cases hr
theorem aif {op : UnOp} {t : TypeId} {x : Operand} {u r : AV} (fc : o.op = .unOp op t x) (hh : cJ X φ w H) (ru : bI (Rd X φ w) φ u (a.eval x)) (hr : W2 op u = some r) : Ok P X φ w o a r H := by
 unfold W2 at hr;split at hr
 ·have hx := gS ru;simp at hr; subst hr;exact Ok.quiet (v' := .int _ _) (by simp [execOp,fc,hx,Op.unary,Op.intArith]) (.int _ _ _) hh
 ·have hx := gS ru;simp at hr; subst hr;exact Ok.quiet (by simp [execOp,fc,hx,Op.unary,intBits_xor]) (.int _ _ _) hh
 ·have hx := mm ru;simp at hr; subst hr;exact Ok.quiet (by simp [execOp,fc,hx,Op.unary]) (.bool _ _) hh
 ·cases hr
theorem agQ {s d : TypeId} {x : Operand} {k k' : IntKind} {n : Int} (fc : o.op = .convert s d x) (hh : cJ X φ w H) (hs : (P.underlying s).isSome = true) (hd : P.underlying d = some (.int k)) (ru : bI (Rd X φ w) φ (.int k' n) (a.eval x)) :
  Ok P X φ w o a (.int k (k.wrap n)) H := by
 have hx := gS ru;obtain ⟨d',hd'⟩ := aW.mp hs;exact Ok.quiet (by simp [execOp,fc,hx,convert,run_underlying hd',run_underlying hd,Conv.intToInt]) (.int _ _ _) hh
theorem agE {fn : Fn} {as bs : Array Operand} {xs ys : List E} (fc : o.op = .makeFunc fn as bs) (hh : cJ X φ w H) (he : mF X φ w env a.tmps) (hg : ek c X φ w) (ha : iM as.toList xs = true) (hb : iM bs.toList ys = true) :
  Ok P X φ w o a (.func fn (C7 c env xs) (C7 c env ys)) H := by
 obtain ⟨l1,h1⟩ := l7 he hg ha;obtain ⟨l2,h2⟩ := l7 he hg hb;refine Ok.quiet (v' := .func fn (as.map a.eval) (bs.map a.eval)) (by simp [execOp,fc,Instr.makeFunc]) (.func _ _ _ _ _ _ (by simp [l1]) (by simp [l2]) (fun i c v hc hv => h1 i c v hc ?_) (fun i c v hc hv => h2 i c v hc ?_)) hh
 ·simpa using hv
 ·simpa using hv
theorem agD {t : TypeId} {k : Nat} {zs : List AV} {x y : Operand} {k1 k2 : IntKind} {l cp : Int} (fc : o.op = .makeSlice t x y) (hh : cJ X φ w H) (hk : iD P t k = true) (hz : gX P t zs = true)
  (rx : bI (Rd X φ w) φ (.int k1 l) (a.eval x)) (ry : bI (Rd X φ w) φ (.int k2 cp) (a.eval y)) (h0 : 0 <= l) (h1 : l <= cp) (h2 : cp <= (jQ : Int)) :
  Ok P X φ w o a (.sl k H.length 0 l.toNat) (H ++ [some (rep zs l.toNat)]) := by
 obtain ⟨e,i,z,hu,hi,sP,hk0,hby,OC,Pu⟩ := iL hk;simp only [gX,hu] at hz;obtain ⟨i',z',v7,GW,dC,_⟩ := qc (X := X) (φ := φ) (w := w) hz;rw [hi] at v7;simp at v7;subst v7;rw [OC] at GW;simp at GW;subst GW;have GV : zs.length = k := by have := dC.1; simp at this; omega
 have hx := gS rx;have hy := gS ry;have hL : (jQ : Int) = 4294967296 := rfl
 have hb : (i.bytes : Int) * cp <= 281474976710656 := by
  have h3 : (i.bytes : Int) * cp <= 1024 * 4294967296 := Int.mul_le_mul (by omega) (by omega) (by omega) (by omega);omega
 have jw := run_make (P := P) w t e i z hu hi OC k1 k2 l cp h0 h1 hb (by omega);have hlc : l.toNat <= cp.toNat := by omega
 have hlk : l.toNat * k <= cp.toNat * k := bD _ hlc;have hms : (madeCells z.cells (cp.toNat * i.size)).size = cp.toNat * k := by rw [size_madeCells,sP]
 obtain ⟨q1,q2⟩ := qN hh (w1 := w) (arr := madeCells z.cells (cp.toNat * i.size)) (e := e) (cs := rep zs l.toNat) rfl rfl rfl rfl (by rw [kv,hms,GV]; exact hlk)
  (P5 dC (m := cp.toNat * k) (by rw [Pu]; exact hlk) hms (fun j hj => by rw [sP]; simp [madeCells,hj]))
 refine Ok.value (v' := .slice (some ⟨w.heap.size,0,none⟩) l.toNat cp.toNat) ?_ (J9 hh.len hlc (by rw [hms]; exact aT _)) q1 q2;simp only [execOp,fc,hx,hy,Sem.run_bind,jw,Result.andThen_ok,Sem.run_pure]

theorem aa1 {x : AV} {hi n : Nat} (h : bnd x hi = some n) : ∃ k i,x = .int k i /\ 0 <= i /\ i <= (hi : Int) /\ n = i.toNat := by
 unfold bnd at h;split at h
 ·rename_i k i;split at h
  ·rename_i hc; simp at h; exact ⟨k,i,rfl,hc.1,hc.2,h.symm⟩
  ·cases h
 ·cases h
theorem uk {x : AV} {len j : Nat} (h : idx x len = some j) : ∃ k i,x = .int k i /\ 0 <= i /\ i < (len : Int) /\ j = i.toNat /\ j < len := by
 unfold idx at h;split at h
 ·rename_i k i;split at h
  ·rename_i hc; simp at h; exact ⟨k,i,rfl,hc.1,hc.2,h.symm,by omega⟩
  ·cases h
 ·cases h
theorem run_sliceBound {k : IntKind} {i : Int} {y : Nat} {cd : BoundsCode} (h0 : 0 <= i) (h1 : i <= (y : Int)) : (Instr.sliceBound (.int k i) y cd).run P w = .ok i.toNat w := by
 simp [Instr.sliceBound,asIntOf,h0,h1]
theorem ti (he : mF X φ w env a.tmps) (hg : ek c X φ w) {x : Operand} {y : E} {n m cap : Nat} {cd : BoundsCode} (hx : dv x y = true) (hn : n <= cap) (h : bnd (ev c env y) n = some m) :
  (Instr.sliceBound (a.eval x) cap cd).run P w = .ok m w /\ m <= n := by
 obtain ⟨k,i,e1,e2,e3,e4⟩ := aa1 h;have r := b7 (a := a) he hg hx;rw [e1] at r;rw [gS r,e4];exact ⟨run_sliceBound e2 (by omega),by omega⟩
theorem Dy (he : mF X φ w env a.tmps) (hg : ek c X φ w) {lo hi : Option Operand} {lo' v7 : Option E} {n cap h l : Nat} (hlo : oV lo lo' = true) (VU : oV hi v7 = true) (hn : n <= cap)
  (hh : zq c env n n v7 = some h) (hl : zq c env 0 h lo' = some l) : (Instr.sliceBounds true n cap (lo.map a.eval) (hi.map a.eval) none).run P w = .ok (l,h,cap) w /\ l <= h /\ h <= n := by
 cases lo <;> cases lo' <;> simp only [oV] at hlo <;> try (cases hlo; done)
 all_goals
  cases hi <;> cases v7 <;> simp only [oV] at VU <;> try (cases VU; done)
 all_goals simp only [zq] at hh hl
 ·simp at hh hl;subst hh; subst hl;exact ⟨by simp [Instr.sliceBounds],by omega,aT _⟩
 ·obtain ⟨h1,h2⟩ := ti (P := P) (cd := .sliceAcap) he hg VU hn hh;simp at hl;subst hl;exact ⟨by simp [Instr.sliceBounds,h1],by omega,h2⟩
 ·simp at hh;subst hh;obtain ⟨h1,h2⟩ := ti (P := P) (cd := .sliceB) he hg hlo (aT _) hl;exact ⟨by simp [Instr.sliceBounds,h1],h2,aT _⟩
 ·obtain ⟨h1,h2⟩ := ti (P := P) (cd := .sliceAcap) he hg VU hn hh;obtain ⟨h3,h4⟩ := ti (P := P) (cd := .sliceB) he hg hlo (aT _) hl;exact ⟨by simp [Instr.sliceBounds,h1,h3],h4,h2⟩
theorem abq {t e : TypeId} {i : TypeInfo} (hu : P.underlying t = some (.slice e)) (hi : P.info? e = some i) {ad : Option Addr} {n cap l h : Nat} {lo v7 : Option Value} (hb : (Instr.sliceBounds true n cap lo v7 none).run P w = .ok (l,h,cap) w) :
  (Instr.sliceAt t (.slice ad n cap) lo v7 none).run P w = .ok (.slice (if cap = l then ad else ad.map (·.add (l * i.size))) (h - l) (cap - l)) w := by
 simp only [Instr.sliceAt,Instr.slice,Sem.run_bind,run_underlying hu,Result.andThen_ok,hb,iy hi,Sem.run_pure]
theorem agB {t : TypeId} {k : Nat} {x : Operand} {y : E} {lo hi : Option Operand} {lo' v7 : Option E} {v : AV} {H' : Heap} {fl : Fp} {call : Nat -> List AV -> Heap -> Option (AV × Heap)} (fc : o.op = .slice t x lo hi none) (hh : cJ X φ w H) (he : mF X φ w env a.tmps) (hg : ek c X φ w)
  (hk : iD P t k = true) (hx : dv x y = true) (hlo : oV lo lo' = true) (VU : oV hi v7 = true) (hs : fL c call env H (.rT k y lo' v7) = some (v,H',fl)) : Ok P X φ w o a v H' := by
 obtain ⟨e,i,z,hu,QV,sP,hk0,hby,OC,Pu⟩ := iL hk;have r := b7 (a := a) he hg hx;simp only [fL] at hs;split at hs
 case h_2 => cases hs
 rename_i n hn;split at hs
 case h_2 => cases hs
 rename_i h hhv;split at hs
 case h_2 => cases hs
 rename_i l hlv
 have fin : ∀ {ad : Option Addr} {cap : Nat},a.eval x = .slice ad n cap -> n <= cap -> l <= h -> h <= n -> (l <= h -> h <= n -> bI (Rd X φ w) φ v (.slice (if cap = l then ad else ad.map (·.add (l * k))) (h - l) (cap - l))) -> H' = H -> Ok P X φ w o a v H' := by
  intro ad cap Pz hnc _ _ hr hH;obtain ⟨h1,h2,h3⟩ := Dy (P := P) he hg hlo VU hnc hhv hlv;have := abq (P := P) hu QV (ad := ad) h1;rw [sP] at this;subst hH;exact Ok.quiet (by simp only [execOp,fc,Pz,CE,Sem.run_bind,this,Result.andThen_ok,Sem.run_pure]) (hr h2 h3) hh
 have le : ∀ cap,n <= cap -> l <= h /\ h <= n := fun cap hc => (Dy (P := P) he hg hlo VU hc hhv hlv).2;obtain ⟨hlh,hhn⟩ := le n (aT _);generalize hy : ev c env y = yv at hs r hn;cases yv <;> simp only [lenA,ah] at hn <;> try (cases hn; done)
 ·subst hn;simp at hs;obtain ⟨rfl,rfl,rfl⟩ := hs;generalize Pz : a.eval x = ax at r;cases r;have hh0 : h = 0 := by omega
  have hl0 : l = 0 := by omega
  subst hh0; subst hl0;exact fin Pz (aT _) (aT _) (aT _) (fun _ _ => by simp; exact .dJ _) rfl
 ·rename_i k' xs;simp only at hs;split at hs
  case isFalse => cases hs
  rename_i zF;subst zF;simp at hs;obtain ⟨rfl,rfl,rfl⟩ := hs;generalize Pz : a.eval x = ax at r;cases r with
  | qC _ _ _ ad n' cap u Pw fD hkc hur hr =>
    subst hn;subst Pw;refine fin Pz fD hlh hhn (fun _ _ => ?_) rfl;have hlen : ((xs.take h).drop l).length = h - l := by simp; omega
    by_cases xT : cap = l
    ·have h0 : (xs.take h).drop l = [] := dn (by omega);rw [if_pos xT,h0];refine .qC _ _ _ _ _ _ u (by simp; omega) (by omega) (by simp) (fun i j x c hx => by simp at hx) (fun i j x c hx => by simp at hx)
    ·rw [if_neg xT]
     have get : ∀ (i : Nat) (x : AV),((xs.take h).drop l)[i]? = some x -> xs[l + i]? = some x := by
      intro i x hx;rw [aQ,bf] at hx;split at hx
      ·exact hx
      ·cases hx
     refine .qC _ _ _ _ _ _ (fun i j => u (l + i) j) hlen.symm (by omega) (fun x hx => ?_) (fun i j x c hx hc => ?_) (fun i j x c hx hc => hr (l + i) j x c (get i x hx) hc)
     ·obtain ⟨i,hi⟩ := br hx;exact hkc x (List.mem_of_getElem? (get i x hi))
     ·have := hur (l + i) j x c (get i x hx) hc;rw [Addr.add_add]
      rwa [show l * k' + (i * k' + j) = (l + i) * k' + j by rw [cq]; omega]
  | jC =>
    simp at hn;subst hn;have hh0 : h = 0 := by omega
    have hl0 : l = 0 := by omega
    subst hh0; subst hl0;exact fin Pz (aT _) (aT _) (aT _) (fun _ _ => by simp; exact .jC _ _) rfl
 ·rename_i k' b off len;simp only at hs;split at hs
  case isFalse => cases hs
  rename_i zF;subst zF;simp at hs;obtain ⟨rfl,rfl,rfl⟩ := hs;subst hn;generalize Pz : a.eval x = ax at r;cases r with
  | sl _ _ _ _ _ ad cap hb hc hp =>
    refine fin Pz hc hlh hhn (fun _ _ => ?_) rfl;have e : (if cap = l then (some ad : Option Addr) else Option.map (·.add (l * k')) (some ad)) = some (if cap = l then ad else ad.add (l * k')) := by split <;> simp
    rw [e];refine .sl _ _ _ _ _ _ _ hb (by omega) fun g sz hg => ?_;obtain ⟨h1,h2⟩ := hp g sz hg;have hmul : l * k' + (cap - l) * k' = cap * k' := by rw [<- cq]; congr 1; omega
    refine ⟨fun h0 => ?_,by omega⟩;rw [if_neg (by omega),h1 (by omega),Addr.gG]

theorem Lk.drop {cs : List AV} {ad : Addr} (h : Lk X φ w cs ad) (n : Nat) : Lk X φ w (cs.drop n) (ad.add n) := by
 intro j x hx;rw [aQ] at hx;rw [Addr.add_add];exact h _ _ hx
theorem Im {cs : List AV} {v : Value} (h : bI (Rd X φ w) φ (.dI cs) v) (n : Nat) : ∃ ad,v = .pointer (some ad) /\ bI (Rd X φ w) φ (.dI (cs.drop n)) (.pointer (some (ad.add n))) := by
 cases h with
 | dI _ _ ad u hu h =>
   refine ⟨ad,rfl,.dI _ _ _ (fun j => u (n + j)) (fun j c hc => ?_) (fun j c hc => ?_)⟩
   ·rw [aQ] at hc;rw [Addr.add_add];exact hu _ _ hc
   ·rw [aQ] at hc;exact h _ _ hc
theorem Ti {b off : Nat} {v : Value} (h : bI (Rd X φ w) φ (.ptr b off) v) (n : Nat) : ∃ ad,v = .pointer (some ad) /\ bI (Rd X φ w) φ (.ptr b (off + n)) (.pointer (some (ad.add n))) := by
 cases h with
 | ptr _ _ _ ad hb h =>
   refine ⟨ad,rfl,.ptr _ _ _ _ hb fun g sz hg => ?_⟩;rw [h g sz hg,Addr.gG]

theorem XA (he : mF X φ w env a.tmps) (hg : ek c X φ w) {hi : Option Operand} {v7 : Option E} {n h : Nat} (VU : oV hi v7 = true) (hh : zq c env n n v7 = some h) : (Instr.sliceBounds false n n none (hi.map a.eval) none).run P w = .ok (0,h,n) w /\ h <= n := by
 cases hi <;> cases v7 <;> simp only [oV] at VU <;> try (cases VU; done)
 all_goals simp only [zq] at hh
 ·simp at hh;subst hh;exact ⟨by simp [Instr.sliceBounds],aT _⟩
 ·obtain ⟨h1,h2⟩ := ti (P := P) (cd := .sliceAlen) he hg VU (aT _) hh;exact ⟨by simp [Instr.sliceBounds,h1],h2⟩
theorem agU {t : TypeId} {n : Nat} {x : Operand} {y : E} {hi : Option Operand} {v7 : Option E} {v : AV} {H' : Heap} {fl : Fp} {call : Nat -> List AV -> Heap -> Option (AV × Heap)} (fc : o.op = .slice t x none hi none) (hh : cJ X φ w H) (he : mF X φ w env a.tmps) (hg : ek c X φ w) (VU : oV hi v7 = true) (r : bI (Rd X φ w) φ (ev c env y) (a.eval x))
  (hk : (match P.underlying t with
  | some (.array n' e) => decide (n = n') && lI P e 1
  | _ => false) = true) (hs : fL c call env H (.IK n y v7) = some (v,H',fl)) : Ok P X φ w o a v H' := by
 split at hk
 case h_2 => cases hk
 rename_i n' e hu;simp only [aa,decide_eq_true_eq] at hk;obtain ⟨rfl,kM⟩ := hk;unfold lI at kM;split at kM
 case h_2 => cases kM
 rename_i i QV;simp only [fL] at hs;split at hs
 case h_2 => cases hs
 rename_i m hm;obtain ⟨bd,B6⟩ := XA (P := P) he hg VU hm;split at hs
 case h_3 => cases hs
 case h_2 =>
  rename_i b off hy;split at hs
  case h_2 => cases hs
  rename_i cs hb;split at hs
  case isFalse => cases hs
  rename_i hc;simp at hs;obtain ⟨rfl,rfl,rfl⟩ := hs;rw [hy] at r;generalize Pz : a.eval x = ax at r;cases r with
  | ptr _ _ _ ad hbl hp =>
    have e0 : (if n = 0 then ad else ad.add (0 * i.size)) = ad := by
     split
     ·rfl
     ·simp [Addr.add]
    have run : (execOp a.eval o).run P w = .ok (.value (.slice (some ad) m n)) w := by
     simp only [execOp,fc,Pz,CE,Instr.sliceAt,Instr.sureAddr,Sem.run_bind,run_underlying hu,Result.andThen_ok,bd,iy QV,Sem.run_pure,e0,Nat.sub_zero]
    refine Ok.quiet run ?_ hh;obtain ⟨g,sz,arr,e,h1,h2,h3,h4,_⟩ := hh.at hb;refine .sl _ _ _ _ _ _ _ hbl B6 fun g' lk hg => ?_;rw [h1] at hg;simp only [ah,aF] at hg;obtain ⟨rfl,rfl⟩ := hg;exact ⟨fun _ => hp _ _ h1,by omega⟩
 rename_i cs hy;split at hs
 case isFalse => cases hs
 rename_i hc;obtain ⟨Lg,rfl,Ic⟩ := hc;have hc : m <= cs.length /\ bq (cs.take m) = true := ⟨Lg,Ic⟩;simp at hs;obtain ⟨rfl,rfl,rfl⟩ := hs;rw [hy] at r;generalize Pz : a.eval x = ax at r;cases r with
 | dI _ _ ad u GB hr =>
   have e0 : (if m = 0 then ad else ad.add (0 * i.size)) = ad := by
    split
    ·rfl
    ·simp [Addr.add]
   have run : (execOp a.eval o).run P w = .ok (.value (.slice (some ad) m m)) w := by
    simp only [execOp,fc,Pz,CE,Instr.sliceAt,Instr.sureAddr,Sem.run_bind,run_underlying hu,Result.andThen_ok,bd,iy QV,Sem.run_pure,e0,Nat.sub_zero]
   refine Ok.quiet run ?_ hh
   have get : ∀ {k : Nat} {c : AV},(cs.take m)[k]? = some c -> cs[k]? = some c /\ c.leaf = true := by
    intro k c h;refine ⟨?_,uM hc.2 k c h⟩;rw [bf] at h;split at h
    ·exact h
    ·cases h
   have one : ∀ {c : AV},c.leaf = true -> c.cells = [c] := by
    intro c h;cases c <;> simp [AV.leaf] at h <;> rfl
   refine .qC _ 1 _ ad m m (fun k _ => u k) (by simp; omega) (aT _) (fun c hm => ?_) (fun k j c d h1 h2 => ?_) (fun k j c d h1 h2 => ?_)
   ·obtain ⟨k,hk⟩ := br hm;rw [one (get hk).2]; rfl
   ·rw [one (get h1).2] at h2;cases j with
    | zero => simp at h2; subst h2; simpa using GB k c (get h1).1
    | succ j => simp at h2
   ·rw [one (get h1).2] at h2;cases j with
    | zero => simp at h2; subst h2; exact hr k c (get h1).1
    | succ j => simp at h2
theorem agN {s : TypeId} {f off : Nat} {x : Operand} {y : E} {v : AV} {H' : Heap} {fl : Fp} {call : Nat -> List AV -> Heap -> Option (AV × Heap)} (fc : o.op = .fieldAddr s x f) (hh : cJ X φ w H) (r : bI (Rd X φ w) φ (ev c env y) (a.eval x))
  (hk : (match P.underlying s with
  | some (.struct fs) => match fs[f]? with
    | some fd => decide (fd.offset = off) && (match P.info? fd.type with
      | some i => decide (i.size ≠ 0)
      | none => false)
    | none => false
  | _ => false) = true) (hs : fL c call env H (.cC off y) = some (v,H',fl)) : Ok P X φ w o a v H' := by
 split at hk
 case h_2 => cases hk
 rename_i fs hu;split at hk
 case h_2 => cases hk
 rename_i fd hf;simp only [aa,decide_eq_true_eq] at hk;obtain ⟨VQ,kM⟩ := hk;split at kM
 case h_2 => cases kM
 rename_i i hi;have hsz' : ¬ i.size = 0 := by simpa using kM
 have run : ∀ {ad : Addr},a.eval x = .pointer (some ad) -> (execOp a.eval o).run P w = .ok (.value (.pointer (some (ad.add off)))) w := by
  intro ad hx;simp only [execOp,fc,hx,Instr.fieldAt,Sem.run_bind,run_underlying hu,Result.andThen_ok,hf,Instr.sureAddr,Sem.run_pure,fieldPlace,iy hi,hsz',if_false,VQ]
 simp only [fL] at hs;split at hs
 ·rename_i b off' hy;simp at hs;obtain ⟨rfl,rfl,rfl⟩ := hs;rw [hy] at r;obtain ⟨ad,h1,h2⟩ := Ti r off;exact Ok.quiet (run h1) h2 hh
 ·rename_i cs hy;simp at hs;obtain ⟨rfl,rfl,rfl⟩ := hs;rw [hy] at r;obtain ⟨ad,h1,h2⟩ := Im r off;exact Ok.quiet (run h1) h2 hh
 ·cases hs
theorem agM {s : TypeId} {f off : Nat} {ag : Option Nat} {x : Operand} {y : E} {v : AV} {H' : Heap} {fl : Fp} {call : Nat -> List AV -> Heap -> Option (AV × Heap)} (fc : o.op = .field s x f) (hh : cJ X φ w H) (r : bI (Rd X φ w) φ (ev c env y) (a.eval x))
  (hk : (match P.underlying s with
  | some (.struct fs) => match fs[f]? with
    | some fd => decide (fd.offset = off) && decide (mD P fd.type = some ag)
    | none => false
  | _ => false) = true) (hs : fL c call env H (.V9 off ag y) = some (v,H',fl)) : Ok P X φ w o a v H' := by
 split at hk
 case h_2 => cases hk
 rename_i fs hu;split at hk
 case h_2 => cases hk
 rename_i fd hf;simp only [aa,decide_eq_true_eq] at hk;obtain ⟨VQ,Lh⟩ := hk;simp only [fL] at hs;split at hs
 case h_2 => cases hs
 rename_i cs hy;split at hs
 case h_2 => cases hs
 rename_i u GB;simp at hs;obtain ⟨rfl,rfl,rfl⟩ := hs;rw [hy] at r;generalize hx : a.eval x = ax at r;cases r with
 | agg _ _ vs hl hr =>
   obtain ⟨v',h1,h2⟩ := Tl Lh hl hr GB;refine Ok.quiet ?_ h2 hh;simp only [execOp,fc,hx,Instr.field,Sem.run_bind,run_underlying hu,Result.andThen_ok,hf,asAgg,Sem.run_pure,VQ,h1]
theorem R3 {t e : TypeId} {i : TypeInfo} (hu : P.underlying t = some (.slice e)) (hi : P.info? e = some i) {ad : Addr} {n cap : Nat} {k : IntKind} {j : Int} (h0 : 0 <= j) (h1 : j < (n : Int)) :
  (Instr.indexAt t (.slice (some ad) n cap) (.int k j)).run P w = .ok (.pointer (some (ad.add (j.toNat * i.size)))) w := by
 simp [Instr.indexAt,asIntOf,run_underlying hu,h0,h1,iy hi]
theorem abr {t e : TypeId} {i : TypeInfo} {n : Nat} (hu : P.underlying t = some (.array n e)) (hi : P.info? e = some i) {ad : Addr} {k : IntKind} {j : Int} (h0 : 0 <= j) (h1 : j < (n : Int)) :
  (Instr.indexAt t (.pointer (some ad)) (.int k j)).run P w = .ok (.pointer (some (ad.add (j.toNat * i.size)))) w := by
 simp [Instr.indexAt,asIntOf,Instr.sureAddr,run_underlying hu,h0,h1,iy hi]
theorem agK {t : TypeId} {k : Nat} {x xi : Operand} {y yi : E} {v : AV} {H' : Heap} {fl : Fp} {call : Nat -> List AV -> Heap -> Option (AV × Heap)} (fc : o.op = .indexAddr t x xi) (hh : cJ X φ w H) (r : bI (Rd X φ w) φ (ev c env y) (a.eval x))
  (ri : bI (Rd X φ w) φ (ev c env yi) (a.eval xi)) (hk : iD P t k = true) (hs : fL c call env H (.gw k y yi) = some (v,H',fl)) : Ok P X φ w o a v H' := by
 obtain ⟨e,i,z,hu,QV,sP,hk0,hby,OC,Pu⟩ := iL hk;simp only [fL] at hs;split at hs
 ·rename_i k' xs hy;split at hs
  case h_2 => cases hs
  rename_i j hj;obtain ⟨kk,ii,e1,e2,e3,e4,e5⟩ := uk hj;split at hs
  case isFalse => cases hs
  rename_i zF;subst zF;split at hs
  case h_2 => cases hs
  rename_i el hel;simp at hs;obtain ⟨rfl,rfl,rfl⟩ := hs;rw [e1] at ri;have hxi := gS ri;rw [hy] at r;generalize hx : a.eval x = ax at r;cases r with
  | qC _ _ _ ad n cap u hn fD hkc hur hr =>
    have jw := R3 (P := P) (w := w) hu QV (ad := ad) (n := n) (cap := cap) (k := kk) e2 (by omega);refine Ok.quiet (v' := .pointer (some (ad.add (ii.toNat * i.size)))) (by simp only [execOp,fc,hx,hxi,Sem.run_bind,jw,Result.andThen_ok,Sem.run_pure]) (.dI _ _ _ (fun m => u j m) (fun m c hc => ?_) (fun m c hc => hr j m el c hel hc)) hh;rw [Addr.add_add,sP,<- e4];exact hur j m el c hel hc
  | jC => simp at hel
 ·rename_i k' b off len hy;split at hs
  case h_2 => cases hs
  rename_i j hj;obtain ⟨kk,ii,e1,e2,e3,e4,e5⟩ := uk hj;split at hs
  case isFalse => cases hs
  rename_i zF;subst zF;simp at hs;obtain ⟨rfl,rfl,rfl⟩ := hs;rw [e1] at ri;have hxi := gS ri;rw [hy] at r;generalize hx : a.eval x = ax at r;cases r with
  | sl _ _ _ _ _ ad cap hb hc hp =>
    have jw := R3 (P := P) (w := w) hu QV (ad := ad) (n := len) (cap := cap) (k := kk) e2 (by omega);refine Ok.quiet (v' := .pointer (some (ad.add (ii.toNat * i.size)))) (by simp only [execOp,fc,hx,hxi,Sem.run_bind,jw,Result.andThen_ok,Sem.run_pure]) (.ptr _ _ _ _ hb fun g sz hg => ?_) hh;rw [(hp g sz hg).1 (by omega),Addr.gG,sP,e4]
 ·cases hs
theorem agJ {t : TypeId} {n k : Nat} {x xi : Operand} {y yi : E} {v : AV} {H' : Heap} {fl : Fp} {call : Nat -> List AV -> Heap -> Option (AV × Heap)} (fc : o.op = .indexAddr t x xi) (hh : cJ X φ w H) (r : bI (Rd X φ w) φ (ev c env y) (a.eval x))
  (ri : bI (Rd X φ w) φ (ev c env yi) (a.eval xi)) (hk : (match P.underlying t with
  | some (.array n' e) => decide (n = n') && lI P e k
  | _ => false) = true) (hs : fL c call env H (.Fi n k y yi) = some (v,H',fl)) : Ok P X φ w o a v H' := by
 split at hk
 case h_2 => cases hk
 rename_i n' e hu;simp only [aa,decide_eq_true_eq] at hk;obtain ⟨rfl,kM⟩ := hk;unfold lI at kM;split at kM
 case h_2 => cases kM
 rename_i i hi;have sP : i.size = k := by simpa using kM
 simp only [fL] at hs;split at hs
 case h_2 => cases hs
 rename_i j hj;obtain ⟨kk,ii,e1,e2,e3,e4,e5⟩ := uk hj;rw [e1] at ri;have hxi := gS ri
 have run : ∀ {ad : Addr},a.eval x = .pointer (some ad) -> (execOp a.eval o).run P w = .ok (.value (.pointer (some (ad.add (j * k))))) w := by
  intro ad hx;have jw := abr (P := P) (w := w) hu hi (ad := ad) (k := kk) e2 e3;simp only [execOp,fc,hx,hxi,Sem.run_bind,jw,Result.andThen_ok,Sem.run_pure,sP,e4]
 split at hs
 ·rename_i b off hy;simp at hs;obtain ⟨rfl,rfl,rfl⟩ := hs;rw [hy] at r;obtain ⟨ad,h1,h2⟩ := Ti r (j * k);exact Ok.quiet (run h1) h2 hh
 ·rename_i cs hy;simp at hs;obtain ⟨rfl,rfl,rfl⟩ := hs;rw [hy] at r;obtain ⟨ad,h1,h2⟩ := Im r (j * k);exact Ok.quiet (run h1) h2 hh
 ·cases hs
theorem aii {t : TypeId} {n k : Nat} {ag : Option Nat} {x xi : Operand} {y yi : E} {v : AV} {H' : Heap} {fl : Fp} {call : Nat -> List AV -> Heap -> Option (AV × Heap)} (fc : o.op = .index t x xi) (hh : cJ X φ w H) (r : bI (Rd X φ w) φ (ev c env y) (a.eval x))
  (ri : bI (Rd X φ w) φ (ev c env yi) (a.eval xi)) (hk : (match P.underlying t with
  | some (.array n' e) => decide (n = n') && lI P e k && decide (mD P e = some ag)
  | _ => false) = true) (hs : fL c call env H (.ix n k ag y yi) = some (v,H',fl)) : Ok P X φ w o a v H' := by
 split at hk
 case h_2 => cases hk
 rename_i n' e hu;simp only [aa,decide_eq_true_eq] at hk;obtain ⟨⟨rfl,kM⟩,Lh⟩ := hk;unfold lI at kM;split at kM
 case h_2 => cases kM
 rename_i i hi;have sP : i.size = k := by simpa using kM
 simp only [fL] at hs;split at hs
 case h_2 => cases hs
 rename_i j hj;obtain ⟨kk,ii,e1,e2,e3,e4,e5⟩ := uk hj;rw [e1] at ri;have hxi := gS ri;split at hs
 case h_2 => cases hs
 rename_i cs hy;split at hs
 case h_2 => cases hs
 rename_i u GB;simp at hs;obtain ⟨rfl,rfl,rfl⟩ := hs;rw [hy] at r;generalize hx : a.eval x = ax at r;cases r with
 | agg _ _ vs hl hr =>
   obtain ⟨v',h1,h2⟩ := Tl Lh hl hr GB;refine Ok.quiet ?_ h2 hh;rw [e4] at h1;simp only [execOp,fc,hx,hxi,Instr.index,asIntOf,Sem.run_bind,Sem.run_pure,run_underlying hu,Result.andThen_ok,e2,e3,and_self,if_true,iy hi,sP,h1]
theorem agO {x : Operand} {i : Nat} {vs : List AV} {v : AV} (fc : o.op = .extract x i) (hh : cJ X φ w H) (r : bI (Rd X φ w) φ (.dD vs) (a.eval x)) (hv : vs[i]? = some v) : Ok P X φ w o a v H := by
 generalize hx : a.eval x = ax at r;cases r with
 | dD _ _ us hl hr =>
   obtain ⟨u,hu⟩ := cv (l := us) (i := i) (by have := au hv; omega);exact Ok.quiet (by simp only [execOp,fc,hx,Instr.extract,hu,Sem.run_bind,Sem.run_pure,Result.andThen_ok]) (hr i v u hv hu) hh
theorem Zx {x : Operand} {y : E} {v : AV} {H' : Heap} {fl : Fp} {call : Nat -> List AV -> Heap -> Option (AV × Heap)} (fc : o.op = .nilCheck x) (hh : cJ X φ w H) (r : bI (Rd X φ w) φ (ev c env y) (a.eval x))
  (hs : fL c call env H (.kU y) = some (v,H',fl)) : Ok P X φ w o a v H' := by
 simp only [fL] at hs;split at hs
 ·rename_i b off hy;simp at hs;obtain ⟨rfl,rfl,rfl⟩ := hs;rw [hy] at r;generalize hx : a.eval x = ax at r;have r' := r;cases r;exact Ok.quiet (by simp only [execOp,fc,hx,Sem.run_pure]) r' hh
 ·rename_i cs hy;simp at hs;obtain ⟨rfl,rfl,rfl⟩ := hs;rw [hy] at r;generalize hx : a.eval x = ax at r;have r' := r;cases r;exact Ok.quiet (by simp only [execOp,fc,hx,Sem.run_pure]) r' hh
 ·rename_i f as bs hy;simp at hs;obtain ⟨rfl,rfl,rfl⟩ := hs;rw [hy] at r;generalize hx : a.eval x = ax at r;have r' := r;cases r;exact Ok.quiet (by simp only [execOp,fc,hx,Sem.run_pure]) r' hh
 ·cases hs
theorem agG {ca : Call} {x : Operand} {t : TypeId} {y : E} {v : AV} {H' : Heap} {fl : Fp} {call : Nat -> List AV -> Heap -> Option (AV × Heap)} (fc : o.op = .call ca) (G0 : ca.callee = .builtin .len) (ke : ca.args = #[x]) (Lc : ca.argTypes = #[t]) (hh : cJ X φ w H)
  (r : bI (Rd X φ w) φ (ev c env y) (a.eval x)) (hsl : isSlice P t = true) (hs : fL c call env H (.len y) = some (v,H',fl)) : Ok P X φ w o a v H' := by
 unfold isSlice at hsl;split at hsl
 case h_2 => cases hsl
 rename_i e hu
 have run : ∀ {ad : Option Addr} {n cap : Nat},a.eval x = .slice ad n cap -> (execOp a.eval o).run P w = .ok (.value (.int .i64 n)) w := by
  intro ad n cap hx;simp [execOp,fc,resolve,G0,ke,Lc,invoke,builtin,hx,Builtin.len_,run_underlying hu,goInt]
 simp only [fL] at hs;split at hs
 case h_2 => cases hs
 rename_i n hn;simp at hs;obtain ⟨rfl,rfl,rfl⟩ := hs;generalize hy : ev c env y = yv at r hn;generalize hx : a.eval x = ax at r;cases yv <;> simp only [lenA,ah] at hn <;> try (cases hn; done)
 ·subst hn;cases r;exact Ok.quiet (run hx) (.int _ _ _) hh
 ·cases r with
  | qC _ _ _ ad m cap u hm =>
    subst hm; subst hn;exact Ok.quiet (run hx) (.int _ _ _) hh
  | jC => simp at hn; subst hn; exact Ok.quiet (run hx) (.int _ _ _) hh
 ·subst hn;cases r;exact Ok.quiet (run hx) (.int _ _ _) hh
theorem LN (mx : Bool) : ∀ (xs : List AV) (vs : List Value) (k : IntKind) (n : Int) (r : AV),yX mx (.int k n) xs = some r -> xs.length = vs.length -> (∀ (i : Nat) (c : AV) (v : Value),xs[i]? = some c -> vs[i]? = some v -> bI (Rd X φ w) φ c v) ->
  ∃ v,(vs.foldlM (if mx then Builtin.max2 else Builtin.min2) (.int k n)).run P w = .ok v w /\ ∀ R ψ,bI R ψ r v
 | [],[],k,n,r,h,_,_ => by simp [yX] at h; subst h; exact ⟨_,rfl,fun _ _ => .int _ _ _⟩
 | [],_ :: _,_,_,_,_,hl,_ => by simp at hl
 | _ :: _,[],_,_,_,_,hl,_ => by simp at hl
 | x :: xs,v :: vs,k,n,r,h,hl,hr => by
   cases x <;> simp only [yX] at h <;> try (cases h; done)
   rename_i k' m;obtain rfl := gS (hr 0 _ v rfl rfl);obtain ⟨v',h1,h2⟩ := LN mx xs vs k _ r h (by simpa using hl) (fun i c u hc hu => hr (i + 1) c u (by simpa using hc) (by simpa using hu));refine ⟨v',?_,h2⟩;cases mx
   ·simp only [bW,if_false] at h1 ⊢;simp only [List.foldlM_cons,Builtin.min2,Sem.run_bind,Sem.run_pure,Result.andThen_ok];exact h1
   ·simp only [if_true] at h1 ⊢;simp only [List.foldlM_cons,Builtin.max2,Sem.run_bind,Sem.run_pure,Result.andThen_ok];exact h1
theorem Zy {mx : Bool} {ca : Call} {ys : List E} {v : AV} (fc : o.op = .call ca) (G0 : ca.callee = .builtin (if mx then .max else .min)) (hh : cJ X φ w H) (he : mF X φ w env a.tmps) (hg : ek c X φ w)
  (ke : iM ca.args.toList ys = true) (hm : xK mx (C7 c env ys) = some v) : Ok P X φ w o a v H := by
 obtain ⟨hl,hr⟩ := l7 he hg ke;generalize hxs : C7 c env ys = xs at hm hl hr;have um : (ca.args.map a.eval).toList = ca.args.toList.map a.eval := by simp
 cases xs with
 | nil => simp [xK] at hm
 | cons x xs =>
   cases x <;> simp only [xK] at hm <;> try (cases hm; done)
   rename_i k n;cases hav : ca.args.toList.map a.eval with
   | nil => have := congrArg List.length hav; simp at this hl; rw [this] at hl; simp at hl
   | cons u us =>
     rw [hav] at hr;obtain rfl := gS (hr 0 _ u rfl rfl);obtain ⟨v',h1,h2⟩ := LN (P := P) mx xs us k n v hm (by have := congrArg List.length hav; simp at this hl; omega) (fun i c w' hc hw => hr (i + 1) c w' (by simpa using hc) (by simpa using hw));refine Ok.quiet (v' := v') ?_ (h2 _ _) hh;cases mx
     ·simp only [bW,if_false] at h1 G0;simp only [execOp,fc,resolve,G0,invoke,builtin,Builtin.min_,um,hav,Sem.run_bind,Sem.run_pure,Result.andThen_ok,h1]
     ·simp only [if_true] at h1 G0;simp only [execOp,fc,resolve,G0,invoke,builtin,Builtin.max_,um,hav,Sem.run_bind,Sem.run_pure,Result.andThen_ok,h1]
theorem agI {t : TypeId} {s : ByteArray} {tab : List Nat} {xi : Operand} {yi : E} {v : AV} {H' : Heap} {fl : Fp} {call : Nat -> List AV -> Heap -> Option (AV × Heap)} (fc : o.op = .index t (.const (.string s)) xi) (hh : cJ X φ w H)
  (ri : bI (Rd X φ w) φ (ev c env yi) (a.eval xi)) (hu : (match P.underlying t with
  | some .string => true
  | _ => false) = true) (htab : s.data.toList.map (·.toNat) = tab) (hs : fL c call env H (.VE tab yi) = some (v,H',fl)) : Ok P X φ w o a v H' := by
 split at hu
 case h_2 => cases hu
 rename_i hu0;clear hu;simp only [fL] at hs;split at hs
 case h_2 => cases hs
 rename_i j hj;obtain ⟨kk,ii,e1,e2,e3,e4,e5⟩ := uk hj;rw [e1] at ri;have hxi := gS ri;split at hs
 case h_2 => cases hs
 rename_i u GB;simp at hs;obtain ⟨rfl,rfl,rfl⟩ := hs;subst htab
 have bO : j < s.size := by
  have h1 : s.data.size = s.size := rfl;have h2 := e5;simp at h2;omega
 have hsj : s[j]? = some s[j] := getElem?_pos s j bO
 have hu2 : s[j].toNat = u := by
  rw [dQ] at GB
  have : s.data.toList[j]? = some s[j] := by
   rw [js];exact dX bO
  rw [this] at GB;simpa using GB
 refine Ok.quiet (v' := .int .u8 u) ?_ (.int _ _ _) hh;subst e4;have dC : a.eval (.const (.string s)) = .string s := rfl;simp only [execOp,fc,dC,hxi,Instr.index,asIntOf,Sem.run_bind,Sem.run_pure,run_underlying hu0,Result.andThen_ok,e2,if_true,hsj,hu2]
theorem agR {ca : Call} {x : Operand} {t : TypeId} {k : Nat} {zs : List AV} {y : E} {v : AV} {H' : Heap} {fl : Fp} {call : Nat -> List AV -> Heap -> Option (AV × Heap)} (fc : o.op = .call ca) (G0 : ca.callee = .builtin .clear) (ke : ca.args = #[x]) (Lc : ca.argTypes = #[t]) (hh : cJ X φ w H)
  (r : bI (Rd X φ w) φ (ev c env y) (a.eval x)) (hk : iD P t k = true) (hz : gX P t zs = true) (hs : fL c call env H (.Ur k zs y) = some (v,H',fl)) : Ok P X φ w o a v H' := by
 obtain ⟨e,i,z,hu,hi,sP,hk0,hby,OC,Pu⟩ := iL hk;simp only [gX,hu] at hz;obtain ⟨i',z',v7,GW,dC,vw⟩ := qc (X := X) (φ := φ) (w := w) hz;rw [hi] at v7;simp at v7;subst v7;rw [OC] at GW;simp at GW;subst GW;have GV : zs.length = k := by have := dC.1; simp at this; omega
 have run0 : ∀ {ad : Option Addr} {cap : Nat},a.eval x = .slice ad 0 cap -> (execOp a.eval o).run P w = .ok (.value (.tuple #[])) w := by
  intro ad cap hx;cases ad <;> simp [execOp,fc,resolve,G0,ke,Lc,invoke,builtin,hx,Builtin.clear_,run_underlying hu]
 simp only [fL] at hs;split at hs
 ·rename_i hy;simp at hs;obtain ⟨rfl,rfl,rfl⟩ := hs;rw [hy] at r;generalize hx : a.eval x = ax at r;cases r;exact Ok.quiet (run0 hx) (.undef _) hh
 ·rename_i k' hy;simp at hs;obtain ⟨rfl,rfl,rfl⟩ := hs;rw [hy] at r;generalize hx : a.eval x = ax at r;cases r with
  | qC _ _ _ ad n cap u hn => simp at hn; subst hn; exact Ok.quiet (run0 hx) (.undef _) hh
  | jC => exact Ok.quiet (run0 hx) (.undef _) hh
 ·rename_i k' b off len hy;rw [hy] at r;split at hs
  ·rename_i h0;subst h0;simp at hs;obtain ⟨rfl,rfl,rfl⟩ := hs;generalize hx : a.eval x = ax at r;cases r;exact Ok.quiet (run0 hx) (.undef _) hh
  ·rename_i h0;split at hs
   case h_2 => cases hs
   rename_i cs hb;split at hs
   case isFalse => cases hs
   rename_i hc;obtain ⟨rfl,jX⟩ := hc;simp at hs;obtain ⟨rfl,rfl,rfl⟩ := hs;generalize hx : a.eval x = ax at r;cases r with
   | sl _ _ _ _ _ ad cap hbl fD hp =>
     obtain ⟨g,sz,arr,e2,h1,h2,h3,h4,h5,h6⟩ := hh.at hb;obtain rfl := (hp g sz h1).1 (by omega)
     have rp : bI (Rd X φ w) φ (.ptr b off) (.pointer (some ⟨g,off,none⟩)) := .ptr _ _ _ _ hbl fun g' lk VW => by
      rw [h1] at VW;simp at VW;rw [VW.1]
     have hcz : Cs X φ w (rep zs len) (Builtin.zeroCells z.cells len).toList := by
      refine ⟨by rw [kv,GV]; simp [Builtin.zeroCells,Pu],fun j c v hc hv => ?_⟩;obtain ⟨u,q1,q2⟩ := P5 dC (n := len) (m := len * k') (by rw [Pu]; omega) (arr := Builtin.zeroCells z.cells len) (by simp [Builtin.zeroCells,Pu]) (fun i hi => by simp [Builtin.zeroCells,Pu,hi]) j c hc;rw [js,q1] at hv;simp at hv;subst hv;exact q2
     obtain ⟨g',w',e1,yk,q1,q2⟩ := Dg (P := P) hh hb rp hcz (hcz.kR (XN vw len)) (by rw [kv,GV]; exact jX);simp at e1;subst e1;refine Ok.value (v' := .tuple #[]) ?_ (.undef _) q1 q2;cases len with
     | zero => exact absurd rfl h0
     | succ m => simp [execOp,fc,resolve,G0,ke,Lc,invoke,builtin,hx,Builtin.clear_,run_underlying hu,qi hi OC,yk]
 ·cases hs
end
end Go.Am

/- append; calls. -/
namespace Go.Am
section
variable {P : Program} {c : eG} {X : Nat -> Prop} {φ : dF} {w : World} {env : Env} {H : Heap} {a : Act} {o : Oper}

theorem ia {k : Nat} : ∀ {xs : List AV},(∀ x ∈ xs,x.cells.length = k) -> (aA xs).length = xs.length * k /\
  ∀ (p : Nat) (c : AV),(aA xs)[p]? = some c -> ∃ i x j,xs[i]? = some x /\ x.cells[j]? = some c /\ p = i * k + j
 | [],_ => ⟨by simp [aA],fun p c h => by simp [aA] at h⟩
 | x :: r,h => by
   obtain ⟨hl,hm⟩ := ia (xs := r) fun y hy => h y (by simp [hy]);have hx := h x (by simp);refine ⟨by simp [aA,hl,hx,cq]; omega,fun p c hc => ?_⟩;rw [aA] at hc;by_cases hp : p < x.cells.length
   ·rw [aq hp] at hc;exact ⟨0,x,p,rfl,hc,by omega⟩
   ·rw [aK (by omega)] at hc;obtain ⟨i,y,j,h1,h2,h3⟩ := hm _ c hc;exact ⟨i + 1,y,j,by simpa using h1,h2,by rw [cq]; omega⟩
theorem vS (hh : cJ X φ w H) {k m : Nat} {x : AV} {news : List AV} {v : Value} (h : iP H k x = some (news,m)) (r : bI (Rd X φ w) φ x v) :
  ∃ ao cap vs,v = .slice ao m cap /\ vs.length = m * k /\ Cs X φ w news vs /\ (∀ ad,ao = some ad -> ∀ (j : Nat) (u : Value),vs[j]? = some u -> w.cell? (ad.add j) = some u) /\ (ao = none -> m = 0) := by
 have fin : ∀ {ad : Addr} {cap : Nat} {cs : List AV},Lk X φ w cs ad -> cs.length = m * k -> cs = news -> v = .slice (some ad) m cap ->
   ∃ ao cap vs,v = .slice ao m cap /\ vs.length = m * k /\ Cs X φ w news vs /\ (∀ ad,ao = some ad -> ∀ (j : Nat) (u : Value),vs[j]? = some u -> w.cell? (ad.add j) = some u) /\ (ao = none -> m = 0) := by
  intro ad cap cs hp hl hn hv;obtain ⟨vs,h1,h2,h3⟩ := hp.values cs.length (aT _);subst hn;refine ⟨some ad,cap,vs,hv,by omega,⟨h1.symm,fun i c u hc hu => h3 i c u (by simpa using hc) hu⟩,fun ad' h => ?_,fun h => by cases h⟩;cases h;exact h2
 cases x <;> simp only [iP] at h <;> try (cases h; done)
 ·simp at h;obtain ⟨rfl,rfl⟩ := h;cases r;exact ⟨none,0,[],rfl,by simp,⟨rfl,fun i c u hc => by simp at hc⟩,(fun ad h => by cases h),fun _ => rfl⟩
 ·rename_i k' xs;split at h
  ·rename_i hk;subst hk;simp at h;obtain ⟨rfl,rfl⟩ := h;cases r with
   | qC _ _ _ ad n cap u hn fD hkc hur hr =>
     obtain ⟨hl,hm⟩ := ia hkc;subst hn;refine fin (ad := ad) (cap := cap) (fun p c hc => ?_) hl rfl rfl;obtain ⟨i,y,j,h1,h2,rfl⟩ := hm p c hc;exact ⟨u i j,(hur i j y c h1 h2).2.2,(hr i j y c h1 h2).E4 φ⟩
   | jC => exact ⟨none,0,[],rfl,by simp,⟨rfl,fun i c u hc => by simp [aA] at hc⟩,(fun ad h => by cases h),fun _ => rfl⟩
  ·cases h
 ·rename_i k' b off len;split at h
  case h_2 => cases h
  rename_i cs dC;split at h
  case isFalse => cases h
  rename_i hc;obtain ⟨rfl,jX⟩ := hc;simp at h;obtain ⟨rfl,rfl⟩ := h;cases r with
  | sl _ _ _ _ _ ad cap hb hc hp =>
    obtain ⟨g,sz,arr,e,h1,h2,h3,h4,h5,h6⟩ := hh.at dC;by_cases h0 : len = 0
    ·subst h0;exact ⟨some ad,cap,[],rfl,by simp,⟨by simp,fun i c u hc => by simp at hc⟩,(fun _ _ j u hu => by simp at hu),(fun h => by cases h)⟩
    ·obtain rfl := (hp g sz h1).1 (by omega);refine fin (ad := ⟨g,off,none⟩) (cap := cap) (cs := (cs.drop off).take (len * k')) (fun p c hc => ?_) (by simp; omega) rfl rfl;rw [bf] at hc;split at hc
     ·rw [aQ] at hc;obtain ⟨u,hu,r⟩ := h6 _ _ hc;exact ⟨u,by rw [Addr.gG,gY h2]; exact hu,r⟩
     ·cases hc

theorem lJ {t ty e e2 : TypeId} {i : TypeInfo} (ht : P.underlying t = some (.slice e)) (hi : P.info? e = some i)
  {g sLen sCap : Nat} {cur : Array Value} (hg : w.heap[g]? = some (.cells cur e2 (0,0)))
  {a : Addr} {m c : Nat} {news : List Value} (hl : news.length = m * i.size) (aiq : ∀ (j : Nat) (u : Value),news[j]? = some u -> w.cell? (a.add j) = some u) (h1 : ∀ u ∈ news,u.oneCell' = true)
  (vY : sLen + m <= sCap) (jX : sLen * i.size + news.length <= cur.size) :
  (Builtin.append_ #[t,t] ty #[.slice (some ⟨g,0,none⟩) sLen sCap,.slice (some a) m c]).run P w =
   .ok (.slice (some ⟨g,0,none⟩) (sLen + m) sCap) (w.setRow g (cur.toList.take (sLen * i.size) ++ news ++ cur.toList.drop (sLen * i.size + news.length)).toArray) := by
 have hf := run_firstCells_some (P := P) w i.size m a m c news hl aiq;have yk := run_storeCells_at P g (sLen * i.size) e2 news 0 cur w hg (by simpa using jX) h1;simp only [wg] at yk;simp [Builtin.append_,run_underlying ht,sizeOf,typeInfo,hi,Builtin.lenOf,vY,hf,Addr.add_lit,yk]
theorem kl {t ty e : TypeId} {i : TypeInfo} (hu : P.underlying t = some (.slice e)) (hi : P.info? e = some i) {base ao : Option Addr} {n cap c : Nat} (h : n <= cap) :
  (Builtin.append_ #[t,t] ty #[.slice base n cap,.slice ao 0 c]).run P w = .ok (.slice base n cap) w := by
 cases base <;> cases ao <;> simp [Builtin.append_,run_underlying hu,sizeOf,th hi,Builtin.lenOf,h,Builtin.firstCells,loadCells,loadCellsFrom,storeCells]
theorem agV {ca : Call} {x y : Operand} {t : TypeId} {k : Nat} {x' y' : E} {v : AV} {H' : Heap} {fl : Fp} {call : Nat -> List AV -> Heap -> Option (AV × Heap)} (fc : o.op = .call ca) (G0 : ca.callee = .builtin .append) (ke : ca.args = #[x,y]) (Lc : ca.argTypes = #[t,t])
  (hh : cJ X φ w H) (rx : bI (Rd X φ w) φ (ev c env x') (a.eval x)) (ry : bI (Rd X φ w) φ (ev c env y') (a.eval y)) (hk : iD P t k = true) (hs : fL c call env H (.app k x' y') = some (v,H',fl)) : Ok P X φ w o a v H' := by
 obtain ⟨e,i,z,hu,hi,sP,hk0,hby,OC,Pu⟩ := iL hk
 have fin : ∀ {p q v' : Value} {w' : World} {φ' : dF},a.eval x = p -> a.eval y = q -> (Builtin.append_ #[t,t] o.type #[p,q]).run P w = .ok v' w' -> bI (Rd X φ' w') φ' v v' -> cJ X φ' w' H' -> fo φ w φ' w' -> Ok P X φ w o a v H' := by
  intro p q v' w' φ' hp hq hr r h k;refine Ok.value ?_ r h k;simp only [execOp,fc,resolve,G0,ke,Lc,invoke,builtin,List.map_toArray,dR,De,hp,hq,Sem.run_bind,Sem.run_pure,Result.andThen_ok,hr]
 simp only [fL] at hs;split at hs
 case h_2 => cases hs
 rename_i news m hsc;obtain ⟨ao,Rl,vs,hy,s8,KD,hvc,T6⟩ := vS hh hsc ry;have hL : jQ = 4294967296 := rfl;split at hs
 ·rename_i AJ;rw [AJ] at rx;generalize hx : a.eval x = ax at rx;cases rx;by_cases hm : m = 0
  ·subst hm;simp at hs;obtain ⟨rfl,rfl,rfl⟩ := hs;exact fin hx hy (kl hu hi (aT 0)) (.dJ _) hh (.refl _ _)
  ·rw [if_neg hm] at hs;split at hs
   case isFalse => cases hs
   rename_i hc;obtain ⟨hlim,vw⟩ := hc;simp at hs;obtain ⟨rfl,rfl,rfl⟩ := hs;cases ao with
   | none => exact absurd (T6 rfl) hm
   | some ad =>
     have hmb : m * i.bytes <= 4294967296 * 1024 := PD (by omega) hby;have hr := run_append_nil (P := P) w t o.type e i z hu hi OC ad m Rl vs (by rw [s8,sP]) (hvc ad rfl) (by omega) (by omega) (by omega);have hge := grownCap_ge w m 0 e
     have kM : (vs.toArray ++ Builtin.zeroCells z.cells (grownCap w m 0 e - m)).size = grownCap w m 0 e * k := by
      simp only [WJ,mi,size_zeroCells,Pu,s8,<- cq]; congr 1; omega
     obtain ⟨q1,q2⟩ := qN hh (w1 := w.drew) (arr := vs.toArray ++ Builtin.zeroCells z.cells (grownCap w m 0 e - m)) (e := e) (cs := news) rfl rfl rfl rfl
      (by rw [kM,KD.1,s8]; exact bD _ hge)
      (KD.at fun j u hj => by rw [pJ (by simpa using au hj)]; simpa using hj)
     exact fin hx hy hr (J9 hh.len hge (by rw [kM]; exact aT _)) q1 q2
 ·rename_i k' b n AJ;split at hs
  case h_2 => cases hs
  rename_i cs dC;split at hs
  case isFalse => cases hs
  rename_i hc;obtain ⟨rfl,hnk,hlim,vw⟩ := hc;simp at hs;obtain ⟨rfl,rfl,rfl⟩ := hs;rw [AJ] at rx;generalize hx : a.eval x = ax at rx;cases rx with
  | sl _ _ _ _ _ ad cap hb fD hp =>
    obtain ⟨g,sz,arr,e2,jK,hg,kM,hle,hX,hm6⟩ := hh.at dC;obtain ⟨OK,vY⟩ := hp g sz jK
    have hold : Cs X φ w (cs.take (n * k')) (arr.toList.take (n * k')) := by
     refine ⟨by simp; omega,fun j x u hx hu => ?_⟩;have hj : j < n * k' := by have := au hx; simp at this; omega
     rw [aS hj] at hx hu;obtain ⟨u',h1,h2⟩ := hm6 j x hx;simp at hu;rw [h1] at hu;simp at hu;subst hu;exact h2
    have jD := hold.append KD;have CW : (arr.toList.take (n * k')).length = n * k' := by simp; omega
    have hlen : (n : Nat) * k' + m * k' = (n + m) * k' := by rw [cq]
    by_cases hm : m = 0
    ·subst hm;have um : vs = [] := dn (by omega);subst um
     obtain ⟨q1,q2⟩ := hh.move (cs' := cs.take (n * k') ++ news) (arr' := arr) (w' := w) jK hg kM rfl (by rw [setRow_self w g arr e2 _ hg]) hX
      (by rw [jD.1]; simp; omega) (jD.at fun j u hj => by
       rw [List.append_nil] at hj;have hj' : j < n * k' := by have := au hj; omega
       rw [aS hj'] at hj;simpa using hj)
     refine fin hx hy (kl hu hi fD) ?_ q1 q2;refine .sl _ _ _ _ _ _ _ (by simp [hh.len]) fD fun g' lk VW => ?_;rw [aK (by simp [hh.len])] at VW;simp [hh.len] at VW;obtain ⟨rfl,rfl⟩ := VW;exact ⟨OK,by omega⟩
    ·cases ao with
     | none => exact absurd (T6 rfl) hm
     | some ady =>
       have h1c := KD.kR vw;by_cases QQ : n + m <= cap
       ·obtain rfl := OK (by omega)
        have jX : n * i.size + vs.length <= arr.size := by
         rw [sP,s8,hlen];have := bD k' QQ;omega
        have hr := lJ (P := P) (ty := o.type) (c := Rl) hu hi hg (by rw [s8,sP]) (hvc ady rfl) h1c QQ jX;rw [sP] at hr jX
        have zb : (arr.toList.take (n * k') ++ vs ++ arr.toList.drop (n * k' + vs.length)).toArray.size = arr.size := by
         simp only [mi,bX,bh,c9,kq]; omega
        obtain ⟨q1,q2⟩ := hh.move (cs' := cs.take (n * k') ++ news) (arr' := (arr.toList.take (n * k') ++ vs ++ arr.toList.drop (n * k' + vs.length)).toArray) jK hg kM zb rfl hX
         (by rw [jD.1,zb]; simp; omega) (jD.at fun j u hj => by
          simp only [uT];rw [aq (au hj)];exact hj)
        refine fin hx hy hr (TC (by simp [hh.len]) QQ (by omega)) q1 q2
       ·have holds : ∀ (j : Nat) (u : Value),(arr.toList.take (n * k'))[j]? = some u -> w.cell? (ad.add j) = some u := by
         intro j u hj;have hj' : j < n * k' := by have := au hj; omega
         have hn0 : 0 < n := by
          rcases Nat.eq_zero_or_pos n with h | h
          ·subst h; simp at hj'
          ·exact h
         obtain rfl := OK (by omega);rw [Addr.gG,gY hg];rw [aS hj'] at hj;simpa using hj
        have hmb : (n + m) * i.bytes <= 4294967296 * 1024 := PD (by omega) hby
        have hr := run_append_grow (P := P) w t o.type e i z hu hi OC ad n cap (arr.toList.take (n * k')) (by rw [CW,sP]) holds ady m Rl vs (by rw [s8,sP]) (hvc ady rfl) (by omega) (by omega)
         (growslice_fits (by omega) (by omega))
        have hge := grownCap_ge w (n + m) cap e
        have hsz2 : ((arr.toList.take (n * k')).toArray ++ vs.toArray ++ Builtin.zeroCells z.cells (grownCap w (n + m) cap e - (n + m))).size = grownCap w (n + m) cap e * k' := by
         simp only [WJ,mi,size_zeroCells,Pu,s8,CW,<- cq]; congr 1; omega
        obtain ⟨k1,k2⟩ := hh.aag b;have Ie : Cs X (φ.set b none) w (cs.take (n * k') ++ news) (arr.toList.take (n * k') ++ vs) := ⟨jD.1,fun j x u hx hu => k2.rep (jD.2 j x u hx hu)⟩
        obtain ⟨q1,q2⟩ := qN k1 (w1 := w.drew) (arr := (arr.toList.take (n * k')).toArray ++ vs.toArray ++ Builtin.zeroCells z.cells (grownCap w (n + m) cap e - (n + m))) (e := e) (cs := cs.take (n * k') ++ news) rfl rfl rfl rfl
         (by rw [hsz2,jD.1,bX,CW,s8,hlen]; exact bD _ hge)
         (Ie.at fun j u hj => by
          rw [pJ (by simpa using au hj)];have : ((arr.toList.take (n * k')).toArray ++ vs.toArray) = (arr.toList.take (n * k') ++ vs).toArray := by simp
          rw [this];simpa using hj)
        refine fin hx hy hr ?_ q1 (k2.trans q2);exact TC (by simp [hh.len]) hge (by rw [hsz2]; exact aT _)
 ·cases hs

theorem aca {ca : Call} {x y : Operand} {t t' : TypeId} {k : Nat} {x' y' : E} {v : AV} {H' : Heap} {fl : Fp} {call : Nat -> List AV -> Heap -> Option (AV × Heap)} (fc : o.op = .call ca) (G0 : ca.callee = .builtin .copy) (ke : ca.args = #[x,y]) (Lc : ca.argTypes = #[t,t'])
  (hh : cJ X φ w H) (rx : bI (Rd X φ w) φ (ev c env x') (a.eval x)) (ry : bI (Rd X φ w) φ (ev c env y') (a.eval y)) (hk : iD P t k = true) (hs : fL c call env H (.copy k x' y') = some (v,H',fl)) : Ok P X φ w o a v H' := by
 obtain ⟨e,i,z,hu,hi,sP,hk0,hby,OC,Pu⟩ := iL hk
 have fin : ∀ {p q v' : Value} {w' : World} {φ' : dF},a.eval x = p -> a.eval y = q -> (Builtin.copy_ #[t,t'] o.type #[p,q]).run P w = .ok v' w' -> bI (Rd X φ' w') φ' v v' -> cJ X φ' w' H' -> fo φ w φ' w' -> Ok P X φ w o a v H' := by
  intro p q v' w' φ' hp hq hr r h k;refine Ok.value ?_ r h k;simp only [execOp,fc,resolve,G0,ke,Lc,invoke,builtin,List.map_toArray,dR,De,hp,hq,Sem.run_bind,Sem.run_pure,Result.andThen_ok,hr]
 simp only [fL] at hs;split at hs
 case h_2 => cases hs
 rename_i news m hsc;obtain ⟨ao,Rl,vs,hy,s8,KD,hvc,T6⟩ := vS hh hsc ry
 have zero : ∀ {base : Option Addr} {n cap : Nat},Nat.min m n = 0 -> (Builtin.copy_ #[t,t'] o.type #[.slice base n cap,.slice ao m Rl]).run P w = .ok (.int .i64 0) w := by
  intro base n cap h0;cases base <;> cases ao <;> simp [Builtin.copy_,run_underlying hu,Builtin.lenOf,sizeOf,th hi,h0,Builtin.firstCells,loadCells,loadCellsFrom,storeCells,goInt]
 split at hs
 ·rename_i AJ;rw [AJ] at rx;generalize hx : a.eval x = ax at rx;cases rx;simp at hs;obtain ⟨rfl,rfl,rfl⟩ := hs;exact fin hx hy (zero (Nat.min_zero m)) (.int _ _ _) hh (.refl _ _)
 ·rename_i k' b off n AJ;split at hs
  case h_2 => cases hs
  rename_i cs dC;split at hs
  case isFalse => cases hs
  rename_i hc;obtain ⟨rfl,jX,vw⟩ := hc;simp only [ah,aF] at hs;obtain ⟨rfl,rfl,rfl⟩ := hs;rw [AJ] at rx;generalize hx : a.eval x = ax at rx;cases rx with
  | sl _ _ _ _ _ ad cap hb fD hp =>
    obtain ⟨g,sz,arr,e2,jK,hg,kM,hle,hX,hm6⟩ := hh.at dC;by_cases h0 : min m n = 0
    ·have e0 : H.set b (some (iZ cs off (news.take (min m n * k')))) = H := by
      have e1 : iZ cs off (news.take (min m n * k')) = cs := by rw [h0]; simp [iZ]
      rw [e1]
      have im : H[b]? = some (some cs) := by
       unfold aJ at dC;split at dC
       ·rename_i q hq;cases dC;exact hq
       ·cases dC
      apply dS;intro j;rw [bg];split
      ·rename_i ej;subst ej;rw [im];simp [au im]
      ·rfl
     have h0' : Nat.min m n = 0 := h0;exact fin hx hy (zero h0') (by rw [h0]; exact .int _ _ _) (by rw [e0]; exact hh) (.refl _ _)
    ·obtain rfl := (hp g sz jK).1 (by omega);cases ao with
     | none => exact absurd (T6 rfl) (by omega)
     | some ady =>
       have rp : bI (Rd X φ w) φ (.ptr b off) (.pointer (some ⟨g,off,none⟩)) := .ptr _ _ _ _ hb fun g' lk VW => by
        rw [jK] at VW;simp at VW;rw [VW.1]
       have hle2 : min m n * k' <= m * k' := bD _ (Nat.min_le_left _ _);have hle3 : min m n * k' <= n * k' := bD _ (Nat.min_le_right _ _)
       have hcz : Cs X φ w (news.take (min m n * k')) (vs.take (min m n * k')) := by
        refine ⟨by simp [KD.1],fun j d u hd hu => ?_⟩;have hj : j < min m n * k' := by have := au hd; rw [bh] at this; omega
        rw [aS hj] at hd hu;exact KD.2 j d u hd hu
       have hnl : news.length = m * k' := by rw [KD.1,s8]
       obtain ⟨g',w',e1,yk,q1,q2⟩ := Dg (P := P) hh dC rp hcz (fun u hu => KD.kR vw u (List.mem_of_mem_take hu)) (by rw [bh]; omega);simp at e1;subst e1
       have hf := run_firstCells_some (P := P) w i.size (min m n) ady m Rl (vs.take (min m n * k')) (by rw [bh,s8,sP]; omega) (fun j u hj => by
        have hj' : j < min m n * k' := by have := au hj; rw [bh] at this; omega
        rw [aS hj'] at hj;exact hvc ady rfl j u hj)
       have hmin : Nat.min m n = min m n := rfl;refine fin hx hy (v' := .int .i64 ((min m n : Nat) : Int)) (w' := w') ?_ (.int _ _ _) q1 q2;have CY : (Builtin.firstCells i.size (Nat.min m n) (.slice (some ady) m Rl)).run P w = .ok (vs.take (min m n * k')).toArray w := hf;simp [Builtin.copy_,run_underlying hu,Builtin.lenOf,sizeOf,th hi,CY,yk,goInt]
       try rfl
 ·cases hs

/-! Calls -/
def Ret (X : Nat -> Prop) (φ : dF) (w : World) (r : AV) (H' : Heap) (e : Ending) (w' : World) : Prop :=
 ∃ v' φ',e = .returned v' /\ bI (Rd X φ' w') φ' r v' /\ cJ X φ' w' H' /\ fo φ w φ' w'
def Bc (P : Program) (c : eG) (call : Nat -> List AV -> Heap -> Option (AV × Heap)) : Prop :=
 ∀ f m q,c.fn f = some (m,q) -> ∀ args H r H',call f args H = some (r,H') -> ∀ X φ w vargs,pY X φ w args vargs -> cJ X φ w H -> ek c X φ w -> Calls P f vargs w (Ret X φ w r H')

theorem cJ.gn (h : cJ X φ w H) {g : Nat} (ho : bM φ g) : g < w.heap.size /\ ¬ X g := by
 obtain ⟨b,sz,hb⟩ := ho;obtain ⟨x,hx⟩ := aV (l := H) (i := b) (h.len ▸ au hb);cases x with
 | none => rw [h.dead b hx] at hb; simp at hb
 | some cs =>
   obtain ⟨g',lk,arr,e,h1,h2,_,_,h5,_⟩ := h.live b cs hx;rw [h1] at hb;simp at hb;rw [<- hb.1];exact ⟨(dG.1 h2).1,h5⟩
theorem cJ.empty (h : cJ X φ w H) : cJ (fun g => X g \/ bM φ g) [] w [] :=
 ⟨rfl,fun g hg => hg.elim (h.Df g) (fun ho => (h.gn ho).1),fun b cs hb => by simp at hb,fun b hb => by simp at hb,fun b b' g sz lk h1 => by simp at h1⟩
theorem N7 (hh : cJ X φ w H) {R : Addr -> Value -> Prop} (hR : ∀ a u,Rd X φ w a u -> R a u) {xs ys : List AV} {bs : List Nat} {n : Nat} {vs : Array Value} (hm : As (AW H n) xs = some (ys,bs))
  (hb : ∀ b ∈ bs,∀ g sz : Nat,φ[b]? = some (some (g,sz)) -> ∀ o u,w.cell? ⟨g,o,none⟩ = some u -> R ⟨g,o,none⟩ u) (ha : pY X φ w xs vs) :
  ys.length = vs.size /\ ∀ (i : Nat) (c : AV) (v : Value),ys[i]? = some c -> vs[i]? = some v -> bI R [] c v := by
 obtain ⟨hl,VR⟩ := qA hm;refine ⟨by rw [hl,ha.1],fun i c v hc hv => ?_⟩;obtain ⟨x,hx⟩ := aV (l := xs) (i := i) (by have := au hc; omega);obtain ⟨y,b,e1,e2,e3⟩ := VR i x hx;rw [e2] at hc;simp at hc;subst hc;exact C6 hh hR n x _ v b e1 (fun b' im => hb b' (e3 b' im)) (ha.2 i x v hx hv)

theorem Ae {call : Nat -> List AV -> Heap -> Option (AV × Heap)} (eU : Bc P c call) {f : Nat} {m : Md} {q : eR} (hf : c.fn f = some (m,q)) {args : List AV} {r r' : AV} {H1 : Heap} {bs : List Nat} (hr : call f args [] = some (r,H1)) (hz : AW H1 Rs r = some (r',bs))
  (hh : cJ X φ w H) (hg : ek c X φ w) {vargs : Array Value} (ha : args.length = vargs.size /\ ∀ (i : Nat) (c : AV) (v : Value),args[i]? = some c -> vargs[i]? = some v -> bI (Rd X φ w) [] c v) :
  Calls P f vargs w (Ret X φ w r' H) := by
 have AK : ∀ {w' : World} a u,Rd X φ w' a u -> Rd (fun g => X g \/ bM φ g) [] w' a u := fun a u ⟨h1,h2,h3⟩ => ⟨fun h => h.elim h1 h2,bM.nil _,h3⟩;have aiz : ∀ {w' : World} a u,Rd (fun g => X g \/ bM φ g) [] w' a u -> Rd X φ w' a u := fun a u ⟨h1,_,h3⟩ => ⟨fun h => h1 (.inl h),fun h => h1 (.inr h),h3⟩;refine (eU f m q hf args [] r H1 hr (fun g => X g \/ bM φ g) [] w vargs ⟨ha.1,fun i x v hx hv => (ha.2 i x v hx hv).mono AK (.refl _)⟩ hh.empty (fun g => (hg g).mono AK (.refl _))).mono ?_;rintro e w1 ⟨v',j5,rfl,r1,h1,a1⟩;refine ⟨v',φ,rfl,?_,hh.of_same a1,.of_same a1⟩
 have AP := C6 h1 (R := Rd (fun g => X g \/ bM φ g) [] w1) (fun a u ⟨p1,p2,p3⟩ => ⟨p1,bM.nil _,p3⟩) Rs r r' v' bs hz
  (fun b _ g sz hb o u hu => ⟨(h1.gn ⟨b,sz,hb⟩).2,bM.nil _,hu⟩) r1
 exact (AP.mono aiz (.refl _)).E4 φ
theorem Iu {call : Nat -> List AV -> Heap -> Option (AV × Heap)} (eU : Bc P c call) {f : Nat} {args : List AV} {r : AV} {H' : Heap} {fl : Fp} (hs : uz c call f args H = some (r,H',fl))
  (hh : cJ X φ w H) (hg : ek c X φ w) {vargs : Array Value} (ha : pY X φ w args vargs) : (∃ m q,c.fn f = some (m,q)) /\ Calls P f vargs w (Ret X φ w r H') := by
 unfold uz at hs;split at hs
 ·cases hs
 ·rename_i q hf;refine ⟨⟨_,_,hf⟩,?_⟩;split at hs
  case h_2 => cases hs
  rename_i r1 H1 hr;simp at hs;obtain ⟨rfl,rfl,rfl⟩ := hs;exact eU f _ q hf args H r1 H1 hr X φ w vargs ha hh hg
 ·rename_i q hf;refine ⟨⟨_,_,hf⟩,?_⟩;split at hs
  case h_2 => cases hs
  rename_i r1 H1 hr;split at hs
  case h_2 => cases hs
  rename_i r' bs hz;split at hs
  case isFalse => cases hs
  rename_i hc;obtain ⟨hle,hge,dy⟩ := hc;simp at hs;obtain ⟨rfl,rfl,rfl⟩ := hs;refine (eU f _ q hf args H r1 H1 hr X φ w vargs ha hh hg).mono ?_;rintro e w1 ⟨v',j5,rfl,r1,h1,a1⟩;have hlen := hh.len;refine ⟨v',j5.take φ.length,rfl,?_,by rw [hlen]; exact h1.take hle dy,a1.take⟩
  have hmem : ∀ {n : Nat} {l : List Nat},UA n l = true -> ∀ b ∈ l,n <= b := by
   intro n l
   induction l with
   | nil => intro _ b hb; simp at hb
   | cons x r ih =>
     intro h b hb;simp only [UA,aa,decide_eq_true_eq] at h;rcases aU.1 hb with h' | h'
     ·subst h'; exact h.1
     ·exact ih h.2 b h'
  have AP := C6 h1 (R := Rd X (j5.take φ.length) w1) Sd Rs _ _ v' bs hz (fun b hb g sz jK o u hu => ?_) r1
  ·exact AP.E4 _
  ·refine ⟨(h1.gn ⟨b,sz,jK⟩).2,fun ⟨b',lk,im⟩ => ?_,hu⟩;rw [bf] at im;split at im
   ·rename_i bO;have := h1.inj b b' g sz lk jK im;have := hmem hge b hb;omega
   ·cases im
 ·rename_i q hf;refine ⟨⟨_,_,hf⟩,?_⟩;split at hs
  ·rename_i qO;split at hs
   case h_2 => cases hs
   rename_i r1 H1 hr;split at hs
   case h_2 => cases hs
   rename_i r' bs hz;simp at hs;obtain ⟨rfl,rfl,rfl⟩ := hs;exact Ae eU hf hr hz hh hg ⟨ha.1,fun i x v hx hv => (ha.2 i x v hx hv).dU (oG qO i x hx) []⟩
  ·split at hs
   case h_2 => cases hs
   rename_i pE bs hm;split at hs
   case h_2 => cases hs
   rename_i r1 H1 hr;split at hs
   case h_2 => cases hs
   rename_i r' bs' hz;split at hs
   ·rename_i ait;simp at hs;obtain ⟨rfl,rfl,rfl⟩ := hs;have hh0 : cJ X [] w [] := ⟨rfl,hh.Df,fun b cs hb => by simp at hb,fun b hb => by simp at hb,fun b b' g sz lk h1 => by simp at h1⟩;have AK : ∀ {w' : World} a u,Rd X φ w' a u -> Rd X [] w' a u := fun a u ⟨h1,_,h3⟩ => ⟨h1,bM.nil _,h3⟩;have Li := N7 hh (R := Rd X [] w) AK hm (fun b _ g sz hb o u hu => ⟨(hh.gn ⟨b,sz,hb⟩).2,bM.nil _,hu⟩) ha;have hc := Ae (X := X) (φ := []) (H := []) eU hf hr hz hh0 (fun g => (hg g).mono AK (.refl _)) Li;refine hc.mono ?_;rintro e w1 ⟨v',j5,rfl,r1,h1,a1⟩;exact ⟨v',φ,rfl,r1.of_flat ait _ _,hh.of_same a1,.of_same a1⟩
   ·simp at hs;obtain ⟨rfl,rfl,rfl⟩ := hs;obtain ⟨k1,k2⟩ := cJ.kill bs hh
    have Li := N7 hh (R := Rd X (Ow φ bs) w) k2.rd hm (fun b hb g sz jK o u hu => ⟨(hh.gn ⟨b,sz,jK⟩).2,fun ⟨b',lk,im⟩ => by
     obtain ⟨e1,e2⟩ := H6 bs φ b' _ im;exact e2 (hh.inj b b' g sz lk jK e1 ▸ hb),hu⟩) ha
    have hc := Ae eU hf hr hz k1 (hg.lj k2) Li;refine hc.mono ?_;rintro e w1 ⟨v',j5,rfl,r1,h1,a1⟩;exact ⟨v',j5,rfl,r1,h1,k2.trans a1⟩

theorem yA (dy : Po P c) {f : Nat} {m : Md} {q : eR} (hf : c.fn f = some (m,q)) (vargs : Array Value) : (callFunc f vargs).run P w = .ok (.enter f vargs) w := by
 obtain ⟨fn,h1,h2⟩ := dy.fn f m q hf;simp only [chkF,aa,bH] at h2;obtain ⟨⟨⟨_,Ia⟩,_⟩,qE⟩ := h2
 have hb : fn.body.isNone = false := by
  cases hfb : fn.body with
  | none => rw [hfb] at qE; cases qE
  | some b => rfl
 simp only [callFunc,Sem.run_bind,run_program,Result.andThen_ok,h1,Ia,hb,bW,if_false,Sem.run_pure]
theorem Ok.call {f : Nat} {vargs : Array Value} {r : AV} {H' : Heap} (hr : (execOp a.eval o).run P w = .ok (.enter f vargs) w) (hc : Calls P f vargs w (Ret X φ w r H')) : Ok P X φ w o a r H' := by
 intro K Q hK;unfold Oper.wp;rw [hr,Oper.upon_enter];refine hc.mono ?_;rintro e w' ⟨v',φ',rfl,r1,h1,a1⟩;exact hK v' w' φ' r1 h1 a1
theorem acb {call : Nat -> List AV -> Heap -> Option (AV × Heap)} (dy : Po P c) (eU : Bc P c call) {ca : Call} {f : Nat} {ys : List E} {r : AV} {H' : Heap} {fl : Fp} (fc : o.op = .call ca) (G0 : ca.callee = .value (.func f))
  (hh : cJ X φ w H) (he : mF X φ w env a.tmps) (hg : ek c X φ w) (ke : iM ca.args.toList ys = true) (hs : fL c call env H (.call f ys) = some (r,H',fl)) : Ok P X φ w o a r H' := by
 obtain ⟨hl,hr⟩ := l7 he hg ke;obtain ⟨⟨m,q,hf⟩,hc⟩ := Iu (P := P) eU hs hh hg (vargs := ca.args.map a.eval) ⟨by simp [hl],fun i x v hx hv => hr i x v hx (by simpa using hv)⟩;refine Ok.call ?_ hc;simp only [execOp,fc,resolve,G0,Act.eval,Deferred.ofValue,invoke,Sem.run_bind,Sem.run_pure,Result.andThen_ok,Array.empty_append,Array.append_empty];exact yA dy hf _
theorem ZC {call : Nat -> List AV -> Heap -> Option (AV × Heap)} (dy : Po P c) (eU : Bc P c call) {ca : Call} {x : Operand} {y : E} {ys : List E} {r : AV} {H' : Heap} {fl : Fp} (fc : o.op = .call ca) (G0 : ca.callee = .value x)
  (hh : cJ X φ w H) (he : mF X φ w env a.tmps) (hg : ek c X φ w) (hx : dv x y = true) (ke : iM ca.args.toList ys = true) (hs : fL c call env H (.jr y ys) = some (r,H',fl)) : Ok P X φ w o a r H' := by
 obtain ⟨hl,hr⟩ := l7 he hg ke;have rx := b7 (a := a) he hg hx;simp only [fL] at hs;split at hs
 case h_2 => cases hs
 rename_i f as bs hy;rw [hy] at rx;generalize Pz : a.eval x = ax at rx;cases rx with
 | func _ _ _ va _ vb zE zD hra hrb =>
   have jD : pY X φ w (as ++ C7 c env ys ++ bs) (va ++ ca.args.map a.eval ++ vb) := by
    have c1 : Cs X φ w as va.toList := ⟨by simpa using zE,fun i x v hx hv => hra i x v hx (by simpa using hv)⟩;have c2 : Cs X φ w (C7 c env ys) (ca.args.map a.eval).toList := ⟨by simp [hl],fun i x v hx hv => hr i x v hx (by simpa using hv)⟩;have c3 : Cs X φ w bs vb.toList := ⟨by simpa using zD,fun i x v hx hv => hrb i x v hx (by simpa using hv)⟩;have c4 := (c1.append c2).append c3
    exact ⟨by have := c4.1; simp at this ⊢; omega,fun i x v hx hv => c4.2 i x v hx (by
     have : (va ++ ca.args.map a.eval ++ vb).toList = va.toList ++ (ca.args.map a.eval).toList ++ vb.toList := by simp
     rw [<- this,js]; exact hv)⟩
   obtain ⟨⟨m,q,hf⟩,hc⟩ := Iu (P := P) eU hs hh hg jD;refine Ok.call ?_ hc;simp only [execOp,fc,resolve,G0,Pz,Deferred.ofValue,invoke,Sem.run_bind,Sem.run_pure,Result.andThen_ok];exact yA dy hf _
end
end Go.Am

/- Every operation; regions in the order of the text, and regions that draw their order. -/
namespace Go.Am
section
variable {P : Program} {c : eG} {X : Nat -> Prop} {φ : dF} {w : World} {env : Env} {H : Heap} {a : Act} {o : Oper}

theorem aid {call : Nat -> List AV -> Heap -> Option (AV × Heap)} (dy : Po P c) (eU : Bc P c call) (he : mF X φ w env a.tmps) (hg : ek c X φ w) (hh : cJ X φ w H) {kd : Kd} {v : AV} {H' : Heap} {fl : Fp}
  (hk : dm P o.op kd = true) (hs : fL c call env H kd = some (v,H',fl)) : Ok P X φ w o a v H' := by
 generalize fc : o.op = op at hk;unfold dm at hk;split at hk
 case h_1 =>
  simp [fL] at hs; obtain ⟨rfl,rfl,_⟩ := hs;exact Ok.quiet (by simp [execOp,fc]) (b7 he hg hk) hh
 case h_2 =>
  simp [fL] at hs; obtain ⟨rfl,rfl,_⟩ := hs;exact Ok.quiet (by simp [execOp,fc]) (b7 he hg hk) hh
 case h_3 =>
  simp only [aa] at hk;simp only [fL] at hs;split at hs
  case h_2 => cases hs
  rename_i t ht;simp at hs; obtain ⟨rfl,rfl,_⟩ := hs;have r := b7 (a := a) he hg hk.1.1;rw [ht] at r;exact ab6 fc hh r (b7 he hg hk.1.2) (b7 he hg hk.2)
 case h_4 =>
  simp [fL] at hs; obtain ⟨rfl,rfl,_⟩ := hs;exact Qz fc hh hk
 case h_5 =>
  simp only [fL] at hs;split at hs
  case isFalse => cases hs
  rename_i hl;simp at hs; obtain ⟨rfl,rfl,_⟩ := hs;exact agS fc hh (b7 he hg hk) hl
 case h_6 =>
  simp only [aa] at hk;simp only [fL] at hs;split at hs
  case h_2 => cases hs
  rename_i cs hf;simp at hs; obtain ⟨rfl,rfl,_⟩ := hs;exact ZE fc hh he hg hk.1 hk.2 hf
 case h_7 =>
  simp only [aa,decide_eq_true_eq] at hk;obtain ⟨⟨⟨⟨h1,h2⟩,h3⟩,h4⟩,h5⟩ := hk;subst h1;simp only [fL] at hs;split at hs
  case h_2 => cases hs
  rename_i cs hf;split at hs
  case isFalse => cases hs
  simp at hs; obtain ⟨rfl,rfl,_⟩ := hs;exact Vn fc hh he hg h2 h3 h4 h5 hf
 case h_8 =>
  simp only [aa,decide_eq_true_eq] at hk;exact aih fc hh (b7 he hg hk.2) hk.1 hs
 case h_9 =>
  simp only [aa] at hk;simp only [fL] at hs;split at hs
  case h_2 => cases hs
  rename_i b off hb;split at hs
  case h_2 => cases hs
  rename_i cs dC;split at hs
  case isFalse => cases hs
  rename_i hc;simp at hs; obtain ⟨rfl,rfl,_⟩ := hs;have r := b7 (a := a) he hg hk.1.2;rw [hb] at r;exact Zv fc hh dC hk.1.1 r (b7 he hg hk.2) hc.1 hc.2.1 hc.2.2
 case h_10 => exact Zx fc hh (b7 he hg hk) hs
 case h_11 =>
  simp only [aa,decide_eq_true_eq] at hk;obtain ⟨⟨h1,h2⟩,h3⟩ := hk;subst h1;simp only [fL] at hs;split at hs
  case h_2 => cases hs
  rename_i r hr;simp at hs; obtain ⟨rfl,rfl,_⟩ := hs;exact agT fc hh (b7 he hg h2) (b7 he hg h3) hr
 case h_12 =>
  simp only [aa] at hk;obtain ⟨⟨⟨h1,h2⟩,h3⟩,h4⟩ := hk;simp only [fL] at hs;split at hs
  case h_2 => cases hs
  rename_i e hr;simp at hs; obtain ⟨rfl,rfl,_⟩ := hs;have := ok_eq fc hh h1 h2 (b7 he hg h3) (b7 he hg h4) hr;simpa using this
 case h_13 =>
  simp only [aa,decide_eq_true_eq] at hk;obtain ⟨h1,h2⟩ := hk;subst h1;simp only [fL] at hs;split at hs
  case h_2 => cases hs
  rename_i r hr;simp at hs; obtain ⟨rfl,rfl,_⟩ := hs;exact aif fc hh (b7 he hg h2) hr
 case h_14 =>
  simp only [aa] at hk;obtain ⟨⟨h1,h2⟩,h3⟩ := hk;split at h2
  case h_2 => cases h2
  rename_i k' hu;simp at h2;subst h2;simp only [fL] at hs;split at hs
  case h_2 => cases hs
  rename_i k2 n hn;simp at hs; obtain ⟨rfl,rfl,_⟩ := hs;have r := b7 (a := a) he hg h3;rw [hn] at r;exact agQ fc hh h1 hu r
 case h_15 =>
  simp only [aa,decide_eq_true_eq] at hk;obtain ⟨⟨h1,h2⟩,h3⟩ := hk;subst h1;simp [fL] at hs; obtain ⟨rfl,rfl,_⟩ := hs;exact agE fc hh he hg h2 h3
 case h_16 =>
  simp only [aa] at hk;obtain ⟨⟨⟨h1,h2⟩,h3⟩,h4⟩ := hk;simp only [fL] at hs;split at hs
  case h_2 => cases hs
  rename_i k1 l k2 cp hl hcp;split at hs
  case isFalse => cases hs
  rename_i hc;simp at hs; obtain ⟨rfl,rfl,_⟩ := hs;have r1 := b7 (a := a) he hg h3;have r2 := b7 (a := a) he hg h4;rw [hl] at r1;rw [hcp] at r2;exact agD fc hh h1 h2 r1 r2 hc.1 hc.2.1 hc.2.2
 case h_17 =>
  simp only [aa] at hk;obtain ⟨⟨⟨h1,h2⟩,h3⟩,h4⟩ := hk;exact agB fc hh he hg h1 h2 h3 h4 hs
 case h_18 =>
  simp only [aa] at hk;exact agN fc hh (b7 he hg hk.2) hk.1 hs
 case h_19 =>
  simp only [aa] at hk;exact agM fc hh (b7 he hg hk.2) hk.1 hs
 case h_20 =>
  simp only [aa] at hk;exact agK fc hh (b7 he hg hk.1.2) (b7 he hg hk.2) hk.1.1 hs
 case h_21 =>
  simp only [aa] at hk;exact agJ fc hh (b7 he hg hk.1.2) (b7 he hg hk.2) hk.1.1 hs
 case h_22 =>
  simp only [aa] at hk;exact aii fc hh (b7 he hg hk.1.2) (b7 he hg hk.2) hk.1.1 hs
 case h_23 =>
  simp only [aa,decide_eq_true_eq] at hk;exact agI fc hh (b7 he hg hk.2) hk.1.1 hk.1.2 hs
 case h_24 =>
  rename_i args argTypes k zs x;split at hk
  case h_2 => cases hk
  rename_i x' t h1 h2;simp only [aa] at hk;exact agR (x := x') (t := t) fc rfl (gg.1 h1) (gg.1 h2) hh (b7 he hg hk.2) hk.1.1 hk.1.2 hs
 case h_25 =>
  simp only [aa,decide_eq_true_eq] at hk;obtain ⟨h1,h2⟩ := hk;subst h1;simp only [fL] at hs;split at hs
  case h_2 => cases hs
  rename_i vs hv;split at hs
  case h_2 => cases hs
  rename_i u hu;simp at hs; obtain ⟨rfl,rfl,_⟩ := hs;have r := b7 (a := a) he hg h2;rw [hv] at r;exact agO fc hh r hu
 case h_26 =>
  simp only [aa,decide_eq_true_eq] at hk;obtain ⟨h1,h2⟩ := hk;subst h1;exact acb dy eU fc rfl hh he hg h2 hs
 case h_27 =>
  simp only [aa] at hk;exact ZC dy eU fc rfl hh he hg hk.1 hk.2 hs
 case h_28 =>
  rename_i args argTypes y;split at hk
  case h_2 => cases hk
  rename_i x t h1 h2;simp only [aa] at hk;exact agG (x := x) (t := t) fc rfl (gg.1 h1) (gg.1 h2) hh (b7 he hg hk.2) hk.1 hs
 case h_29 =>
  rename_i args argTypes k x y;split at hk
  case h_2 => cases hk
  rename_i x' y' t t' h1 h2;simp only [aa,decide_eq_true_eq] at hk;obtain ⟨⟨⟨h3,h4⟩,h5⟩,h6⟩ := hk;subst h3;exact agV (x := x') (y := y') (t := t) fc rfl (gg.1 h1) (gg.1 h2) hh (b7 he hg h5) (b7 he hg h6) h4 hs
 case h_30 =>
  simp only [fL] at hs;split at hs
  case h_2 => cases hs
  rename_i r hr;simp at hs; obtain ⟨rfl,rfl,_⟩ := hs;exact Zy (mx := false) fc rfl hh he hg hk hr
 case h_31 =>
  simp only [fL] at hs;split at hs
  case h_2 => cases hs
  rename_i r hr;simp at hs; obtain ⟨rfl,rfl,_⟩ := hs;exact Zy (mx := true) fc rfl hh he hg hk hr
 case h_32 =>
  simp only [aa] at hk;exact agU fc hh he hg hk.2.2 (b7 he hg hk.2.1) hk.1 hs
 case h_33 =>
  rename_i args argTypes k x y;split at hk
  case h_2 => cases hk
  rename_i x' y' t t' h1 h2;simp only [aa] at hk;exact aca (x := x') (y := y') (t := t) (t' := t') fc rfl (gg.1 h1) (gg.1 h2) hh (b7 he hg hk.1.2) (b7 he hg hk.2) hk.1.1 hs
 case h_34 => cases hs
 case h_35 => cases hk

structure SRel (X : Nat -> Prop) (φ : dF) (w : World) (s : St) (a : Act) (N : Nat) : Prop where
 env : mF X φ w s.env a.tmps
 heap : cJ X φ w s.H
 defers : a.defers = []
 size : a.tmps.size = N

theorem Zj (a : Act) (d : Option Nat) (v : Value) : (a.put d v).tmps.size = a.tmps.size /\ (a.put d v).defers = a.defers := by cases d <;> simp [Act.put]
theorem SRel.put {s : St} {N : Nat} {φ' : dF} {w' : World} {d : Option Nat} {v : AV} {v' : Value} {H' : Heap} (h : SRel X φ w s a N) (hd : ∀ i,d = some i -> i < N) (r : bI (Rd X φ' w') φ' v v') (hh : cJ X φ' w' H') (k : fo φ w φ' w') :
  SRel X φ' w' ⟨ql s.env d v,H'⟩ (a.put d v') N := by
 obtain ⟨h1,h2⟩ := Zj a d v';refine ⟨?_,hh,by rw [h2]; exact h.defers,by rw [h1]; exact h.size⟩;cases d with
 | none => exact h.env.lj k
 | some i => exact (h.env.lj k).put (by rw [h.size]; exact hd i rfl) r
theorem V4 {ts : Array Value} {g : Nat} {b : Bool} (h : ts.getD g undef = .bool b) : ts[g]? = some (.bool b) := by
 rw [a8] at h;cases hg : ts[g]? with
 | none => rw [hg] at h; simp [undef] at h
 | some v => rw [hg] at h; simp at h; rw [h]
theorem Q0 {ts : Array Value} {g : Nat} (h : ts.getD g undef = .tuple #[]) : ts[g]? = none \/ ts[g]? = some (.tuple #[]) := by
 rw [a8] at h;cases hg : ts[g]? with
 | none => exact .inl rfl
 | some v => rw [hg] at h; simp at h; rw [h]; exact .inr rfl

end
end Go.Am

/- Regions that draw their order: the order makes no difference. -/
namespace Go.Am
section
variable {P : Program} {c : eG} {call : Nat -> List AV -> Heap -> Option (AV × Heap)}

theorem jb {e1 e2 : Env} {x : E} (h : ∀ i ∈ x.slot,get e1 i = get e2 i) : ev c e1 x = ev c e2 x := by
 cases x with
 | t i => exact h i (by simp [E.slot])
 | k x => rfl
 | g i => rfl
theorem l6 {e1 e2 : Env} : ∀ {xs : List E},(∀ i ∈ kP xs,get e1 i = get e2 i) -> C7 c e1 xs = C7 c e2 xs
 | [],_ => rfl
 | x :: r,h => by
   simp only [kP,aC] at h;simp only [C7];rw [jb fun i hi => h i (.inl hi),l6 fun i hi => h i (.inr hi)]
theorem uw {e1 e2 : Env} : ∀ {ps : List (Nat × Nat × E)} {zs : List AV},(∀ i ∈ nK ps,get e1 i = get e2 i) -> mB c e1 zs ps = mB c e2 zs ps
 | [],_,_ => by simp [mB]
 | (o,s,x) :: r,zs,h => by
   simp only [nK,aC] at h;simp only [mB];rw [jb fun i hi => h i (.inl hi)];split
   ·exact uw fun i hi => h i (.inr hi)
   ·rfl
theorem yb {e1 e2 : Env} {d m : Nat} {x : Option E} (h : ∀ i ∈ Hi x,get e1 i = get e2 i) : zq c e1 d m x = zq c e2 d m x := by
 cases x with
 | none => rfl
 | some x => simp only [zq]; rw [jb h]
theorem IQ {e1 e2 : Env} {H : Heap} {kd : Kd} (h : ∀ i ∈ kd.reads,get e1 i = get e2 i) : fL c call e1 H kd = fL c call e2 H kd := by
 cases kd <;> simp only [Kd.reads,aC] at h <;> simp only [fL]
 case pick x y z => rw [jb fun i hi => h i (.inl hi),jb fun i hi => h i (.inr (.inl hi)),jb fun i hi => h i (.inr (.inr hi))]
 case build => rw [uw h]
 case eE => rw [uw h]
 case rT k x lo hi => rw [jb fun i hi => h i (.inl hi)]; simp only [yb (c := c) fun i hi => h i (.inr (.inl hi)),yb (c := c) fun i hi => h i (.inr (.inr hi))]
 case IK n x u => simp only [jb (c := c) fun i hi => h i (.inl hi),yb (c := c) fun i hi => h i (.inr hi)]
 case call => rw [l6 h]
 case min => rw [l6 h]
 case max => rw [l6 h]
 case TK => rw [l6 fun i hi => h i (.inl hi),l6 fun i hi => h i (.inr hi)]
 case jr => rw [jb fun i hi => h i (.inl hi),l6 fun i hi => h i (.inr hi)]
 all_goals first
  | rfl
  | rw [jb h]
  | rw [jb fun i hi => h i (.inl hi),jb fun i hi => h i (.inr hi)]
theorem F9 {H : Heap} {b b' : Nat} {x : PB} (h : b ≠ b') : aJ (H.set b x) b' = aJ H b' := by
 unfold aJ; rw [cP h]
theorem Gb {H T : Heap} {b : Nat} (h : b < H.length) : aJ (H ++ T) b = aJ H b := by
 unfold aJ; rw [aq h]
def Bb (fp : Fp) (H H' : Heap) (v : AV) (f : Heap -> Option (AV × Heap × Fp)) : Prop :=
 (fp = .no -> H' = H /\ ∀ H2,f H2 = some (v,H2,.no)) /\ (∀ b,fp = .rd b -> H' = H /\ ∀ H2,aJ H2 b = aJ H b -> f H2 = some (v,H2,.rd b)) /\ (fp = .ra -> H' = H) /\
 (∀ n bs,fp = .wr n bs -> ∀ b,b < n -> b ∉ bs -> aJ H' b = aJ H b)
theorem Bb.wr0 {H H' : Heap} {v : AV} {f : Heap -> Option (AV × Heap × Fp)} : Bb (.wr 0 []) H H' v f :=
 ⟨(fun h => by cases h),(fun b h => by cases h),(fun h => by cases h),fun n bs h b hb => by cases h; omega⟩
theorem Bb.no {H : Heap} {v : AV} {f : Heap -> Option (AV × Heap × Fp)} (h : ∀ H2,f H2 = some (v,H2,.no)) : Bb .no H H v f :=
 ⟨fun _ => ⟨rfl,h⟩,(fun b h => by cases h),fun _ => rfl,(fun n bs h => by cases h)⟩
theorem Bb.ra {H : Heap} {v : AV} {f : Heap -> Option (AV × Heap × Fp)} : Bb .ra H H v f :=
 ⟨(fun h => by cases h),(fun b h => by cases h),fun _ => rfl,(fun n bs h => by cases h)⟩
theorem Bb.rd {H : Heap} {v : AV} {b : Nat} {f : Heap -> Option (AV × Heap × Fp)} (h : ∀ H2,aJ H2 b = aJ H b -> f H2 = some (v,H2,.rd b)) : Bb (.rd b) H H v f :=
 ⟨(fun h => by cases h),(fun b' hb => by cases hb; exact ⟨rfl,h⟩),fun _ => rfl,(fun n bs h => by cases h)⟩
theorem Bb.wr {H H' : Heap} {v : AV} {n : Nat} {bs : List Nat} {f : Heap -> Option (AV × Heap × Fp)} (h : ∀ b,b < n -> b ∉ bs -> aJ H' b = aJ H b) : Bb (.wr n bs) H H' v f :=
 ⟨(fun h => by cases h),(fun b h => by cases h),(fun h => by cases h),fun n' bs' e => by cases e; exact h⟩
theorem Iv {f : Nat} {args : List AV} {H H' : Heap} {v : AV} {fl : Fp} (h : uz c call f args H = some (v,H',fl)) : Bb fl H H' v (uz c call f args) := by
 unfold uz at h;split at h
 ·cases h
 ·split at h
  ·simp at h; obtain ⟨_,_,rfl⟩ := h; exact .wr0
  ·cases h
 ·split at h
  ·split at h
   ·split at h
    ·simp at h; obtain ⟨_,_,rfl⟩ := h; exact .wr0
    ·cases h
   ·cases h
  ·cases h
 ·rename_i q hf;split at h
  ·rename_i hp;split at h
   ·rename_i r H1 hr;split at h
    ·rename_i r' bs hz;simp at h;obtain ⟨rfl,rfl,rfl⟩ := h;exact .no fun H2 => by simp [uz,hf,hp,hr,hz]
    ·cases h
   ·cases h
  ·split at h
   ·split at h
    ·split at h
     ·split at h
      ·simp at h; obtain ⟨_,rfl,rfl⟩ := h; exact .ra
      ·simp at h; obtain ⟨_,_,rfl⟩ := h; exact .wr0
     ·cases h
    ·cases h
   ·cases h
theorem aa8 {env : Env} {H H' : Heap} {kd : Kd} {v : AV} {fl : Fp} (h : fL c call env H kd = some (v,H',fl)) : Bb fl H H' v (fun H2 => fL c call env H2 kd) := by
 have app : ∀ {T : Heap} (b : Nat),b < H.length -> b ∉ ([] : List Nat) -> aJ (H ++ T) b = aJ H b := fun b hb _ => Gb hb;have st : ∀ {x : PB} {b0 : Nat} (b : Nat),b < H.length -> b ∉ [b0] -> aJ (H.set b0 x) b = aJ H b := fun b _ hn => F9 (by simp at hn; exact fun e => hn e.symm)
 have mv : ∀ {x : PB} {T : Heap} {b0 : Nat} (b : Nat),b < H.length -> b ∉ [b0] -> aJ (H.set b0 x ++ T) b = aJ H b := fun b hb hn => by
  rw [Gb (by simpa using hb)]; exact F9 (by simp at hn; exact fun e => hn e.symm)
 have same : ∀ (b : Nat),b < H.length -> b ∉ ([] : List Nat) -> aJ H b = aJ H b := fun _ _ _ => rfl;cases kd
 case call f xs => simp only [fL] at h ⊢; exact Iv h
 case jr x xs =>
  simp only [fL] at h ⊢;split at h
  ·exact Iv h
  ·cases h
 case ld ag x =>
  simp only [fL] at h ⊢;split at h
  ·rename_i cs hx;split at h
   ·rename_i u hu;simp at h;obtain ⟨rfl,rfl,rfl⟩ := h;exact .no fun H2 => by simp [hu]
   ·cases h
  ·rename_i b off hx;split at h
   ·rename_i cs hb;split at h
    ·rename_i u hu;simp at h;obtain ⟨rfl,rfl,rfl⟩ := h;exact .rd fun H2 h2 => by simp [h2,hb,hu]
    ·cases h
   ·cases h
  ·cases h
 case IK n x hi =>
  simp only [fL] at h ⊢;split at h
  case h_2 => cases h
  rename_i m hm;split at h
  ·split at h
   ·rename_i hc;simp at h;obtain ⟨rfl,rfl,rfl⟩ := h;exact .no fun H2 => by simp [hc]
   ·cases h
  ·rename_i b off hx;split at h
   ·rename_i cs hb;split at h
    ·rename_i hc;simp at h;obtain ⟨rfl,rfl,rfl⟩ := h;exact .rd fun H2 h2 => by simp [h2,hb,hc]
    ·cases h
   ·cases h
  ·cases h
 all_goals simp only [fL] at h ⊢
 all_goals
  (repeat' split at h)
  all_goals first
   | (cases h; done)
   | (simp at h; obtain ⟨rfl,rfl,rfl⟩ := h; first | exact .wr app | exact .wr st | exact .wr mv | exact .wr same | (refine .no fun H2 => ?_; simp_all; done))
def nJ (c : eG) (call : Nat -> List AV -> Heap -> Option (AV × Heap)) (env : Env) (H : Heap) (o : O) : Option (AV × Heap × Fp) :=
 match o.guard with
 | none => fL c call env H o.kd
 | some (g,want) => match get env g with
   | .bool b => if b = want then fL c call env H o.kd else some (.undef,H,.no)
   | .undef => some (.undef,H,.no)
   | _ => none
theorem tf {e1 e2 : Env} {H : Heap} {q : O} (h : ∀ i ∈ q.reads,get e1 i = get e2 i) : nJ c call e1 H q = nJ c call e2 H q := by
 unfold nJ;unfold O.reads at h;simp only [aC] at h;cases hg : q.guard with
 | none => simp only [hg] at h ⊢; exact IQ fun i hi => h i (.inr hi)
 | some p =>
   obtain ⟨g,want⟩ := p;simp only [hg] at h ⊢;rw [h g (.inl (by simp)),IQ fun i hi => h i (.inr hi)]
theorem LF {env : Env} {H H' : Heap} {q : O} {v : AV} {fl : Fp} (h : nJ c call env H q = some (v,H',fl)) : Bb fl H H' v (fun H2 => nJ c call env H2 q) := by
 unfold nJ at h ⊢;cases hg : q.guard with
 | none => simp only [hg] at h ⊢; exact aa8 h
 | some p =>
   obtain ⟨g,want⟩ := p;simp only [hg] at h ⊢;split at h
   ·split at h
    ·rename_i QY; simp only [QY,if_true]; exact aa8 h
    ·rename_i QY; simp only [QY,if_false]; simp at h; obtain ⟨rfl,rfl,rfl⟩ := h; exact .no fun _ => rfl
   ·simp at h; obtain ⟨rfl,rfl,rfl⟩ := h; exact .no fun _ => rfl
   ·cases h
theorem mem_iff {i : Nat} : ∀ {l : List Nat},mem i l = true ↔ i ∈ l
 | [] => by simp [mem]
 | j :: r => by
   unfold mem;split
   ·rename_i h; simp [h]
   ·rename_i h; rw [mem_iff]; simp [h]
theorem jE {env : Env} {d : Option Nat} {v : AV} {i : Nat} (h : d ≠ some i) : get (ql env d v) i = get env i := by
 cases d with
 | none => rfl
 | some d => simp only [ql,bu]; rw [if_neg fun e => h (by rw [e])]
theorem acS {env : Env} {H H1 H2 : Heap} {x y : O} {v1 v2 : AV} {f1 f2 : Fp} (hx : nJ c call env H x = some (v1,H1,f1)) (hy : nJ c call (ql env x.dst v1) H1 y = some (v2,H2,f2))
  (yl : jk x y = true) (hf : f1.ok f2 = true) :
  ∃ H2',nJ c call env H y = some (v2,H2',f2) /\ nJ c call (ql env y.dst v2) H2' x = some (v1,H2,f1) /\ ∀ i,get (ql (ql env x.dst v1) y.dst v2) i = get (ql (ql env y.dst v2) x.dst v1) i := by
 have a1 : ∀ d,x.dst = some d -> d ∉ y.reads /\ y.dst ≠ some d := by
  intro d hd;simp only [jk,hd,aa,bH,decide_eq_true_eq] at yl;refine ⟨fun h => ?_,yl.1.2⟩;have := mem_iff.2 h;rw [yl.1.1] at this;cases this
 have a2 : ∀ d,y.dst = some d -> d ∉ x.reads := by
  intro d hd h;simp only [jk,hd,aa,bH] at yl;have := mem_iff.2 h;rw [yl.2] at this;cases this
 have cy : ∀ Hq,nJ c call (ql env x.dst v1) Hq y = nJ c call env Hq y := fun Hq => tf fun i hi => jE fun e => (a1 i e).1 hi;have cx : ∀ Hq,nJ c call (ql env y.dst v2) Hq x = nJ c call env Hq x := fun Hq => tf fun i hi => jE fun e => a2 i e hi
 have he : ∀ i,get (ql (ql env x.dst v1) y.dst v2) i = get (ql (ql env y.dst v2) x.dst v1) i := by
  intro i;by_cases h1 : x.dst = some i
  ·have h2 := (a1 i h1).2;rw [jE h2,h1];simp [ql,bu]
  ·rw [jE (env := ql env y.dst v2) h1];by_cases h2 : y.dst = some i
   ·rw [h2]; simp [ql,bu]
   ·rw [jE h2,jE h2,jE h1]
 rw [cy] at hy;obtain ⟨g0,g1,g2,g3⟩ := LF hx;obtain ⟨k0,k1,k2,k3⟩ := LF hy;have nm : ∀ {b : Nat} {bs : List Nat},mem b bs = false -> b ∉ bs := fun h hm => by rw [mem_iff.2 hm] at h; cases h
 cases f1 with
 | no =>
   obtain ⟨rfl,h0⟩ := g0 rfl;exact ⟨H2,hy,by rw [cx]; exact h0 H2,he⟩
 | rd b =>
   obtain ⟨rfl,h0⟩ := g1 b rfl;cases f2 with
   | no => obtain ⟨rfl,_⟩ := k0 rfl; exact ⟨_,hy,by rw [cx]; exact hx,he⟩
   | rd b' => obtain ⟨rfl,_⟩ := k1 b' rfl; exact ⟨_,hy,by rw [cx]; exact hx,he⟩
   | ra => obtain rfl := k2 rfl; exact ⟨_,hy,by rw [cx]; exact hx,he⟩
   | wr n bs =>
     simp only [Fp.ok,aa,decide_eq_true_eq,bH] at hf;exact ⟨H2,hy,by rw [cx]; exact h0 H2 (k3 n bs rfl b hf.1 (nm hf.2)),he⟩
 | ra =>
   obtain rfl := g2 rfl;cases f2 with
   | no => obtain ⟨rfl,_⟩ := k0 rfl; exact ⟨_,hy,by rw [cx]; exact hx,he⟩
   | rd b' => obtain ⟨rfl,_⟩ := k1 b' rfl; exact ⟨_,hy,by rw [cx]; exact hx,he⟩
   | ra => obtain rfl := k2 rfl; exact ⟨_,hy,by rw [cx]; exact hx,he⟩
   | wr n bs => simp [Fp.ok] at hf
 | wr n bs =>
   cases f2 with
   | no => obtain ⟨rfl,h0⟩ := k0 rfl; exact ⟨H,h0 H,by rw [cx]; exact hx,he⟩
   | rd b =>
     obtain ⟨rfl,h0⟩ := k1 b rfl;simp only [Fp.ok,aa,decide_eq_true_eq,bH] at hf;exact ⟨H,h0 H (g3 n bs rfl b hf.1 (nm hf.2)).symm,by rw [cx]; exact hx,he⟩
   | ra => simp [Fp.ok] at hf
   | wr n' bs' => simp [Fp.ok] at hf

abbrev Ent := Nat × Oper × O × Fp
def K0 (c : eG) (call : Nat -> List AV -> Heap -> Option (AV × Heap)) : List Ent -> Env -> Heap -> Env -> Heap -> Prop
 | [],e,H,e',H' => (∀ i,get e i = get e' i) /\ H = H'
 | p :: r,e,H,e',H' => ∃ v H1,nJ c call e H p.2.2.1 = some (v,H1,p.2.2.2) /\ K0 c call r (ql e p.2.2.1.dst v) H1 e' H'
theorem K0.congr : ∀ {R : List Ent} {e1 e2 : Env} {H : Heap} {e' : Env} {H' : Heap},(∀ i,get e1 i = get e2 i) -> K0 c call R e1 H e' H' -> K0 c call R e2 H e' H'
 | [],e1,e2,H,e',H',h,hr => ⟨fun i => (h i).symm.trans (hr.1 i),hr.2⟩
 | p :: r,e1,e2,H,e',H',h,⟨v,H1,h1,h2⟩ => by
   refine ⟨v,H1,by rw [<- tf fun i _ => h i]; exact h1,K0.congr (fun i => ?_) h2⟩;cases hd : p.2.2.1.dst with
   | none => exact h i
   | some d => simp only [ql,bu]; rw [h i]
theorem K0.KS {x : Ent} : ∀ {R1 R2 : List Ent} {e : Env} {H : Heap} {e' : Env} {H' : Heap},(∀ p ∈ R1,jk p.2.2.1 x.2.2.1 = true /\ p.2.2.2.ok x.2.2.2 = true) -> K0 c call (R1 ++ x :: R2) e H e' H' -> K0 c call (x :: (R1 ++ R2)) e H e' H'
 | [],R2,e,H,e',H',_,hr => hr
 | p :: R1,R2,e,H,e',H',h,⟨v,H1,h1,h2⟩ => by
   obtain ⟨v2,H2,h3,h4⟩ := K0.KS (fun q hq => h q (by simp [hq])) h2;obtain ⟨yl,hf⟩ := h p (by simp);obtain ⟨H2',k1,k2,k3⟩ := acS h1 h3 yl hf;exact ⟨v2,H2',k1,v,H2,k2,h4.congr k3⟩

inductive Anc (ops : Array Oper) (i : Nat) : Nat -> Prop
 | one {j : Nat} {o : Oper} (ho : ops[j]? = some o) (h : i ∈ direct o) : Anc ops i j
 | via {j k : Nat} {o : Oper} (ho : ops[j]? = some o) (h : k ∈ direct o) (ha : Anc ops i k) : Anc ops i j
theorem xL {o : Oper} {i : Nat} : i ∈ direct o ↔ ∃ e ∈ o.after,Region.binds .any e = true /\ e.on = i := by
 unfold direct;simp only [List.mem_map,List.mem_filter,PH];constructor
 ·rintro ⟨e,⟨h1,h2⟩,h3⟩; exact ⟨e,h1,h2,h3⟩
 ·rintro ⟨e,h1,h2,h3⟩; exact ⟨e,⟨h1,h2⟩,h3⟩
def Rw (ops : Array Oper) (gM : Array Bool) : Prop := ∀ j o,ops[j]? = some o -> gM.getD j false = true -> ∀ i ∈ direct o,gM.getD i false = true
theorem Rw.zr {ops : Array Oper} {gM : Array Bool} (h : Rw ops gM) {i j : Nat} (ha : Anc ops i j) : ∀ o,ops[j]? = some o -> (∀ k ∈ direct o,gM.getD k false = true) -> gM.getD i false = true := by
 induction ha with
 | one ho hm => intro o ho' hd; rw [ho] at ho'; cases ho'; exact hd _ hm
 | via ho hm ha ih =>
   intro o ho' hd;rw [ho] at ho';cases ho';have hk := hd _ hm;cases ha with
   | one ho2 hm2 => exact h _ _ ho2 hk _ hm2
   | via ho2 hm2 ha2 => exact ih _ ho2 fun l hl => h _ _ ho2 hk l hl
def abb (ops : Array Oper) (zr : List (List Nat)) : Prop := ∀ j l,zr[j]? = some l -> ∀ i ∈ l,Anc ops i j
theorem vF {i : Nat} : ∀ {l : List Nat},i ∈ dedup l -> i ∈ l
 | [],h => by simp [dedup] at h
 | x :: r,h => by
   unfold dedup at h;split at h
   ·exact iw _ (vF h)
   ·rcases aU.1 h with h | h
    ·subst h; simp
    ·exact iw _ (vF h)
theorem Pk {ops : Array Oper} {zr : List (List Nat)} (h : abb ops zr) {j : Nat} {o : Oper} (ho : ops[j]? = some o) : ∀ i ∈ Gm zr o,Anc ops i j := by
 intro i hi;unfold Gm at hi;rcases aC.1 (vF hi) with hi | hi
 ·exact .one ho hi
 ·obtain ⟨k,hk,sP⟩ := List.mem_flatMap.1 hi;refine .via ho (vF hk) ?_;rw [List.getD_eq_getElem?_getD] at sP;cases hl : zr[k]? with
  | none => rw [hl] at sP; simp at sP
  | some l => rw [hl] at sP; exact h k l hl i sP
end
end Go.Am

/- A run of the compact code is a run of the dump's code; calls; the theorem that ties a call to the kit's 'Calls'. -/
namespace Go.Am
section
variable {P : Program} {c : eG}

def Ex.to : Ex -> Exit
 | .normal => .normal
 | .exit id => .exit id
 | .ret => .ret

def LW (P : Program) (cd : Code) (Q : Exit -> Act -> World -> Prop) (a : Act) (w : World) : Prop :=
 ∀ (b : Frame) (k : List Item) (cs : List Frame),∃ e a' w',Q e a' w' /\ Arrives P (lone (b.at a (.code cd :: .inLoop cd :: k)) cs w) b k cs e a' w'
theorem LW.loop {cd : Code} {Q : Exit -> Act -> World -> Prop} {a : Act} {w : World} (h : LW P cd Q a w) : (Code.loop cd).wp P Q a w := by
 intro b k cs;obtain ⟨e,a',w',hq,OH⟩ := h b k cs;exact ⟨e,a',w',hq,.of_steps (.one step_loop) OH⟩
theorem LW.step {cd : Code} {Q : Exit -> Act -> World -> Prop} {a : Act} {w : World} (h : cd.wp P (Exit.then (LW P cd Q) Q) a w) : LW P cd Q a w := by
 intro b k cs;obtain ⟨e,a1,w1,hq,OH⟩ := h b (.inLoop cd :: k) cs;cases e with
 | normal =>
   obtain ⟨e2,a2,w2,hq2,aiA⟩ := hq b k cs;exact ⟨e2,a2,w2,hq2,.of_steps (Steps.trans OH (.one step_inLoop)) aiA⟩
 | exit id => exact ⟨_,a1,w1,hq,.pass (x := .inLoop cd) rfl (fun _ _ => .inl (by simp)) OH⟩
 | goto l => exact ⟨_,a1,w1,hq,.pass (x := .inLoop cd) rfl (fun _ _ => .inl (by simp)) OH⟩
 | ret => exact ⟨_,a1,w1,hq,.pass (x := .inLoop cd) rfl (fun _ _ => .inl (by simp)) OH⟩
 | panic ch => exact ⟨_,a1,w1,hq,.pass (x := .inLoop cd) rfl (fun _ _ => .inl (by simp)) OH⟩
 | outgrown => exact ⟨_,a1,w1,hq,.pass (x := .inLoop cd) rfl (fun _ _ => .inl (by simp)) OH⟩

theorem qF : ∀ (args : List AV) (k i : Nat),get (ei k args) i = if k <= i then args[i - k]?.getD .any else .any
 | [],k,i => by simp [ei,get]
 | x :: r,k,i => by
   simp only [ei,get];by_cases h : i = k
   ·subst h; simp
   ·rw [if_neg h,qF r (k + 1) i];by_cases h2 : k + 1 <= i
    ·rw [if_pos h2,if_pos (by omega),show i - k = (i - (k + 1)) + 1 by omega,jm]
    ·rw [if_neg h2,if_neg (by omega)]
theorem XH {X : Nat -> Prop} {φ : dF} {w : World} {s : St} {ts : Array Value} (he : mF X φ w s.env ts) (hh : cJ X φ w s.H) : ∀ {rs : List ResultVar} {qs : List Rv} {xs : List AV},Cg P rs qs = true -> LR s.H s.env qs = some xs ->
  ∃ vs : List Value,(rs.mapM (m := Sem) fun
   | .tmp t => pure (ts.getD t undef)
   | .cell a t => do loadVar t (<- asAddr (ts.getD a undef))).run P w = .ok vs w /\ Cs X φ w xs vs
 | [],[],xs,_,h => by simp [LR] at h; subst h; exact ⟨[],rfl,rfl,fun i c v hc => by simp at hc⟩
 | [],_ :: _,_,h,_ => by simp [Cg] at h
 | _ :: _,[],_,h,_ => by simp [Cg] at h
 | r :: rs,q :: qs,xs,h,hx => by
   simp only [Cg,aa] at h;simp only [LR] at hx;split at hx
   case h_2 => cases hx
   rename_i x ys h1 h2;simp at hx;subst hx;obtain ⟨vs,e1,e2⟩ := XH he hh h.2 h2
   have one : ∃ v,(match r with
    | .tmp t => pure (ts.getD t undef)
    | .cell a t => do loadVar t (<- asAddr (ts.getD a undef)) : Sem Value).run P w = .ok v w /\ bI (Rd X φ w) φ x v := by
    have hr := h.1;unfold chkR at hr;split at hr
    ·rename_i t i;simp at hr;subst hr;simp [XJ] at h1;subst h1;exact ⟨_,rfl,he _⟩
    ·rename_i a t i ag;simp only [aa,decide_eq_true_eq] at hr;obtain ⟨rfl,Lh⟩ := hr;have r := he a;simp only [XJ] at h1;split at h1
     ·rename_i b off hg;split at h1
      case h_2 => cases h1
      rename_i cs dC;rw [hg] at r;obtain ⟨g,sz,arr,e,h3,_,_,_,_,_,_,h4⟩ := Lk.QD hh dC r;obtain ⟨u,h5,h6⟩ := Ko Lh h1 h4;exact ⟨u,by simp [h3,asAddr,h5],h6⟩
     ·rename_i cs hg;rw [hg] at r;obtain ⟨ad,h3,h4⟩ := Lk.Ty r;obtain ⟨u,h5,h6⟩ := Ko Lh h1 h4;exact ⟨u,by simp [h3,asAddr,h5],h6⟩
     ·cases h1
    ·cases hr
   obtain ⟨v,e3,e4⟩ := one;refine ⟨v :: vs,?_,by simp [e2.1],fun i c u hc hu => ?_⟩
   ·simp only [List.mapM_cons,Sem.run_bind,Sem.run_pure];rw [e3];simp only [Result.andThen_ok];rw [e1];simp only [Result.andThen_ok]
   ·cases i with
    | zero => simp at hc hu; subst hc; subst hu; exact e4
    | succ i => simp at hc hu; exact e2.2 i c u hc hu
theorem Bf {X : Nat -> Prop} {φ : dF} {w : World} {s : St} {ts : Array Value} {fn : Func} {qs : List Rv} {xs : List AV} (he : mF X φ w s.env ts) (hh : cJ X φ w s.H) (hc : Cg P fn.results.toList qs = true) (hx : LR s.H s.env qs = some xs) :
  ∃ v,(results fn ts).run P w = .ok v w /\ bI (Rd X φ w) φ (m6 xs) v := by
 obtain ⟨vs,h1,h2⟩ := XH (P := P) he hh hc hx
 have h3 : (fn.results.mapM (m := Sem) fun
   | .tmp t => pure (ts.getD t undef)
   | .cell a t => do loadVar t (<- asAddr (ts.getD a undef))).run P w = .ok vs.toArray w := by
  rw [<- vL (xs := fn.results),List.mapM_toArray];simp only [Sem.run_map];rw [h1];simp only [Result.andThen_ok]
 have h4 : (results fn ts).run P w = (Result.ok vs.toArray w).andThen (fun (a : Array Value) w' => (pure (if h : a.size = 1 then a[0] else .tuple a) : Sem Value).run P w') := by
  unfold results;simp only [Sem.run_bind];exact congrArg (fun z => Result.andThen z _) h3
 rw [h4];simp only [Result.andThen_ok,Sem.run_pure];refine ⟨_,rfl,?_⟩;obtain ⟨hl,hr⟩ := h2
 match xs,vs,hl,hr with
 | [],[],_,_ => exact .dD _ _ _ rfl fun i c v hc => by simp at hc
 | [x],[v],_,hr => exact hr 0 x v rfl rfl
 | x :: y :: xs,v :: u :: vs,hl,hr =>
   have e : ¬ ((v :: u :: vs).toArray.size = 1) := by simp
   rw [dif_neg e];exact .dD _ _ _ (by simpa using hl) fun i c z hc hz => hr i c z hc (by simpa using hz)

end
end Go.Am
