/- An abstract machine, and its soundness against the model. -/
import Derived.WalkKit
import Derived.Laws.StructEq
import Derived.Laws.MakeOwn
import Derived.Scope
set_option linter.unusedVariables false
/- The abstract machine: values by value, a small heap of own blocks, and an interpreter with fuel for the compact code. -/
open Array renaming getD_eq_getD_getElem? → bf, getElem?_append_left → qV, getElem?_eq_getElem → HM, getElem?_eq_some_iff → eK, getElem?_push → Q7, getElem?_toList → jL, length_toList → pk, map → Cp, mem_toList_iff → Pb, range → wN, size_append → WX, toArray_toList → wM, toList_inj → gV
open Bool renaming and_eq_true → ae, false_eq_true → bn, not_eq_true' → bH
open List renaming append_assoc → dj, eq_nil_of_length_eq_zero → gG, ext_getElem? → dT, getElem?_append_left → az, getElem?_append_right → aR, getElem?_cons_succ → l9, getElem?_drop → aU, getElem?_map → cq, getElem?_of_mem → bG, getElem?_set → bm, getElem?_set_ne → dq, getElem?_take → bF, getElem?_take_of_lt → aS, getElem?_toArray → vR, length_append → bN, length_cons → cj, length_drop → dS, length_take → bC, map_cons → jE, map_nil → Vc, mem_append → aG, mem_cons → aK, mem_cons_of_mem → fF, size_toArray → rm
open Nat renaming add_mul → cF, add_zero → O3, le_refl → aT, le_trans → O0, lt_of_lt_of_le → fM, mul_le_mul_right → bM
open Option renaming isSome_iff_exists → aQ, map_none → CK
open Option.some renaming injEq → ah
open Prod.mk renaming injEq → aJ
namespace Go.Am

inductive Rt where
 | s (i : Nat) | sc (i j : Nat) | c (b j : Nat)
 deriving DecidableEq,Inhabited
inductive AV where
 | any | undef | fy | fD | dz
 | int (k : IntKind) (n : Int)
 | bool (b : Bool)
 | str (s : ByteArray)
 | agg (cs : List AV)
 | dB (vs : List AV)
 | list (k : Nat) (xs : List AV)
 | dw (cs : List AV)
 | ptr (b off : Nat)
 | sl (k b off len : Nat)
 | func (fn : Fn) (first caps : List AV)
 | own (k : Nat) (xs : List AV)
 | dG (k : Nat) (p : Rt) (off len : Nat)
 | fa (k : Nat) (p : Rt) (i off : Nat)
 deriving Inhabited

abbrev Q2 := Option (List AV)
abbrev Heap := List Q2
abbrev Env := List (Nat × AV)

def lj : Nat := 4294967296

def get : Env -> Nat -> AV
 | [],_ => .any
 | (j,u) :: r,i => if i = j then u else get r i
def put : Env -> Nat -> AV -> Env
 | [],i,v => [(i,v)]
 | (j,u) :: r,i,v => if i < j then (i,v) :: (j,u) :: r else if i = j then (i,v) :: r else (j,u) :: put r i v
def mem : Nat -> List Nat -> Bool
 | _,[] => false
 | i,j :: r => if i = j then true else mem i r
def qf (keep : List Nat) : Env -> Env
 | [] => []
 | (j,u) :: r => if mem j keep then (j,u) :: qf keep r else qf keep r
def rL (env : Env) (d : Option Nat) (v : AV) : Env :=
 match d with
 | some d => put env d v
 | none => env
def ep : Nat -> List AV -> Env
 | _,[] => []
 | i,a :: r => (i,a) :: ep (i + 1) r

def AV.cells : AV -> List AV
 | .agg cs => cs
 | x => [x]
def AV.leaf : AV -> Bool
 | .any | .undef | .agg _ | .dB _ => false
 | _ => true
def bz : List AV -> Bool
 | [] => true
 | x :: r => x.leaf && bz r

mutual
def AV.plain : AV -> Bool
 | .ptr _ _ | .sl _ _ _ _ => false
 | .agg cs => q6 cs
 | .dB cs => q6 cs
 | .func _ a b => q6 a && q6 b
 | _ => true
def q6 : List AV -> Bool
 | [] => true
 | x :: r => x.plain && q6 r
end
mutual
def AV.flat : AV -> Bool
 | .ptr _ _ | .sl _ _ _ _ | .list _ _ | .dw _ => false
 | .agg cs => Gv cs
 | .dB cs => Gv cs
 | .func _ a b => Gv a && Gv b
 | _ => true
def Gv : List AV -> Bool
 | [] => true
 | x :: r => x.flat && Gv r
end
mutual
def AV.uF (n : Nat) : AV -> Bool
 | .ptr b _ => decide (b < n)
 | .sl _ b _ _ => decide (b < n)
 | .agg cs => o7 n cs
 | .dB cs => o7 n cs
 | .func _ a b => o7 n a && o7 n b
 | _ => true
def o7 (n : Nat) : List AV -> Bool
 | [] => true
 | x :: r => x.uF n && o7 n r
end
def xZ (n : Nat) : Heap -> Bool
 | [] => true
 | none :: r => xZ n r
 | some cs :: r => o7 n cs && xZ n r

def aN (H : Heap) (b : Nat) : Option (List AV) :=
 match H[b]? with
 | some (some cs) => some cs
 | _ => none
def el : List AV -> AV
 | [.agg cs] => .agg [.agg cs]
 | [x] => x
 | cs => .agg cs
def OY (k : Nat) : Nat -> List AV -> List AV
 | 0,_ => []
 | n + 1,cs => el (cs.take k) :: OY k n (cs.drop k)
def AQ (f : AV -> Option (AV × List Nat)) : List AV -> Option (List AV × List Nat)
 | [] => some ([],[])
 | x :: r => match f x,AQ f r with
   | some (y,b),some (ys,bs) => some (y :: ys,b ++ bs)
   | _,_ => none
def Bc (H : Heap) : Nat -> AV -> Option (AV × List Nat)
 | 0,_ => none
 | n + 1,x => match x with
   | .ptr b off => match aN H b with
     | some cs => match AQ (Bc H n) (cs.drop off) with
       | some (ys,bs) => some (.dw ys,b :: bs)
       | none => none
     | none => none
   | .sl k b off len => match aN H b with
     | some cs => if off + len * k <= cs.length then
       match AQ (Bc H n) ((cs.drop off).take (len * k)) with
       | some (ys,bs) => some (.list k (OY k len ys),b :: bs)
       | none => none
       else none
     | none => none
   | .agg cs => match AQ (Bc H n) cs with
     | some (ys,bs) => some (.agg ys,bs)
     | none => none
   | .dB cs => match AQ (Bc H n) cs with
     | some (ys,bs) => some (.dB ys,bs)
     | none => none
   | .func f a c => match AQ (Bc H n) a,AQ (Bc H n) c with
     | some (ys,bs),some (zs,cs) => some (.func f ys zs,bs ++ cs)
     | _,_ => none
   | x => some (x,[])
def U0 (n : Nat) : List Nat -> Bool
 | [] => true
 | b :: r => decide (n <= b) && U0 n r
def kill : Heap -> List Nat -> Heap
 | H,[] => H
 | H,b :: r => kill (H.set b none) r
def QZ : Nat := 8

inductive E where
 | t (i : Nat) | k (x : AV) | g (i : Nat)
 deriving Inhabited

inductive Et where
 | bool | str (ints : List Bool) | PM | FE | nfn
 deriving Inhabited

inductive Kd where
 | mv (x : E) | pick (c a b : E)
 | new (zs : List AV) | box (x : E)
 | build (zs : List AV) (parts : List (Nat × Nat × E))
 | dY (k n : Nat) (zs : List AV) (parts : List (Nat × Nat × E))
 | ld (ag : Option Nat) (x : E) | st (k : Nat) (a v : E)
 | lK (x : E)
 | bin (op : BinOp) (x y : E) | eq (neg : Bool) (t : Et) (x y : E) | un (op : UnOp) (x : E) | Ci (k : IntKind) (x : E)
 | OS (fn : Fn) (first caps : List E)
 | Hd (k : Nat) (zs : List AV) (len cap : E)
 | yG (k : Nat) (x : E) (lo hi : Option E)
 | fX (off : Nat) (x : E) | HK (n : Nat) (x : E) (hi : Option E) | Wi (off : Nat) (ag : Option Nat) (x : E)
 | fO (k : Nat) (x i : E) | Cy (n k : Nat) (x i : E) | ix (n k : Nat) (ag : Option Nat) (x i : E)
 | ext (i : Nat) (x : E)
 | call (f : Nat) (args : List E) | jc (x : E) (args : List E)
 | VY (tab : List Nat) (i : E) | Ov (k : Nat) (zs : List AV) (x : E)
 | len (x : E) | app (k : Nat) (x y : E) | min (xs : List E) | max (xs : List E) | copy (k : Nat) (x y : E)
 | bad
 deriving Inhabited

structure O where
 dst : Option Nat
 guard : Option (Nat × Bool)
 kd : Kd
 deriving Inhabited

def E.slot : E -> List Nat
 | .t i => [i]
 | _ => []
def mh : List E -> List Nat
 | [] => []
 | x :: r => x.slot ++ mh r
def pI : List (Nat × Nat × E) -> List Nat
 | [] => []
 | p :: r => p.2.2.slot ++ pI r
def HY : Option E -> List Nat
 | some x => x.slot
 | none => []
def Kd.reads : Kd -> List Nat
 | .mv x | .box x | .ld _ x | .lK x | .un _ x | .Ci _ x | .fX _ x | .Wi _ _ x | .ext _ x | .len x => x.slot
 | .pick c a b => c.slot ++ (a.slot ++ b.slot)
 | .new _ => []
 | .bad => []
 | .VY _ i => i.slot
 | .Ov _ _ x => x.slot
 | .build _ ps | .dY _ _ _ ps => pI ps
 | .st _ x y | .bin _ x y | .eq _ _ x y | .Hd _ _ x y | .fO _ x y | .Cy _ _ x y | .ix _ _ _ x y | .app _ x y | .copy _ x y => x.slot ++ y.slot
 | .OS _ a b => mh a ++ mh b
 | .yG _ x lo hi => x.slot ++ (HY lo ++ HY hi)
 | .HK _ x hi => x.slot ++ HY hi
 | .call _ xs | .min xs | .max xs => mh xs
 | .jc x xs => x.slot ++ mh xs
def Kd.pure : Kd -> Bool
 | .mv _ | .pick _ _ _ | .build _ _ | .lK _ | .bin _ _ _ | .eq _ _ _ _ | .un _ _ | .Ci _ _ | .OS _ _ _ | .yG _ _ _ _ | .fX _ _ | .Wi _ _ _ | .fO _ _ _ | .Cy _ _ _ _ | .ix _ _ _ _ _ | .ext _ _ | .VY _ _ | .len _ | .min _ | .max _ => true
 | _ => false
def O.reads (o : O) : List Nat := (match o.guard with
 | some (g,_) => [g]
 | none => []) ++ o.kd.reads

inductive Fp where
 | no | rd (b : Nat) | ra | wr (n : Nat) (bs : List Nat)
 deriving Inhabited
def Fp.ok : Fp -> Fp -> Bool
 | .no,_ => true
 | _,.no => true
 | .rd _,.rd _ => true
 | .rd _,.ra => true
 | .ra,.rd _ => true
 | .ra,.ra => true
 | .rd b,.wr n bs => decide (b < n) && !mem b bs
 | .wr n bs,.rd b => decide (b < n) && !mem b bs
 | _,_ => false

inductive C where
 | skip | ret | exit (id : Nat)
 | aO (os : List O) (dr : Bool) (un : List (Nat × Nat)) (keep : List Nat)
 | seq (a b : C) | cond (c : E) (a b : C) | aN (id : Nat) (b : C) | loop (b : C)
 deriving Inhabited

inductive Md where | P | T | K
 deriving Inhabited
inductive Rv where | t (i : Nat) | c (i : Nat) (ag : Option Nat)
 deriving Inhabited
structure fK where
 n : Nat
 np : Nat
 res : List Rv
 body : C
 deriving Inhabited
structure eE where
 fn : Nat -> Option (Md × fK)
 gl : Nat -> List AV
 orc : Nat -> Option (List AV -> Heap -> Option (AV × Heap))

inductive Ex where | normal | exit (id : Nat) | ret
 deriving Inhabited
structure St where
 env : Env
 H : Heap
 deriving Inhabited

def ev (c : eE) (env : Env) : E -> AV
 | .t i => get env i
 | .k x => x
 | .g i => .dw (c.gl i)
def Da (c : eE) (env : Env) : List E -> List AV
 | [] => []
 | x :: r => ev c env x :: Da c env r

def Al (ag : Option Nat) (cs : List AV) : Option AV :=
 match ag with
 | some k => if k <= cs.length then some (.agg (cs.take k)) else none
 | none => cs.head?
def jv (cs : List AV) (off : Nat) (vs : List AV) : List AV := cs.take off ++ vs ++ cs.drop (off + vs.length)
def idx (x : AV) (len : Nat) : Option Nat :=
 match x with
 | .int _ i => if 0 <= i /\ i < (len : Int) then some i.toNat else none
 | _ => none
def bnd (x : AV) (hi : Nat) : Option Nat :=
 match x with
 | .int _ i => if 0 <= i /\ i <= (hi : Int) then some i.toNat else none
 | _ => none
def zY (c : eE) (env : Env) (dflt hi : Nat) : Option E -> Option Nat
 | none => some dflt
 | some x => bnd (ev c env x) hi
def nK (c : eE) (env : Env) : List AV -> List (Nat × Nat × E) -> Option (List AV)
 | zs,[] => some zs
 | zs,(off,sz,x) :: r =>
   if (ev c env x).cells.length = sz /\ off + sz <= zs.length /\ bz (ev c env x).cells = true then nK c env (jv zs off (ev c env x).cells) r else none

def arith (op : BinOp) (k : IntKind) (x y : Int) : Option AV :=
 match op with
 | .add => some (.int k (k.wrap (x + y)))
 | .sub => some (.int k (k.wrap (x - y)))
 | .mul => some (.int k (k.wrap (x * y)))
 | .quo => if y = 0 then none else some (.int k (k.wrap (x.tdiv y)))
 | .rem => if y = 0 then none else some (.int k (x.tmod y))
 | .and => some (.int k (bits .and k x y))
 | .or => some (.int k (bits .or k x y))
 | .xor => some (.int k (bits .xor k x y))
 | .andNot => some (.int k (bits .andNot k x y))
 | .eql => some (.bool (x == y))
 | .neq => some (.bool (x != y))
 | .lss => some (.bool (decide (x < y)))
 | .leq => some (.bool (decide (x <= y)))
 | .gtr => some (.bool (decide (y < x)))
 | .geq => some (.bool (decide (y <= x)))
 | _ => none
def zT : List Bool -> List AV -> List AV -> Option Bool
 | [],[],[] => some true
 | true :: l,.int k a :: r,.int k' b :: s => if k = k' then match zT l r s with
   | some e => some (a == b && e)
   | none => none
   else none
 | false :: l,.bool a :: r,.bool b :: s => match zT l r s with
   | some e => some (a == b && e)
   | none => none
 | _,_,_ => none
def isNil : Et -> AV -> Option Bool
 | .PM,.dz => some true
 | .PM,.sl _ _ _ _ => some false
 | .PM,.list _ (_ :: _) => some false
 | .FE,.fy => some true
 | .FE,.ptr _ _ => some false
 | .FE,.dw _ => some false
 | .nfn,.fD => some true
 | .nfn,.func _ _ _ => some false
 | _,_ => none
def Wk : Et -> AV -> AV -> Option Bool
 | .bool,.bool a,.bool b => some (a == b)
 | .str l,.agg xs,.agg ys => zT l xs ys
 | .PM,x,.dz => isNil .PM x
 | .FE,x,.fy => isNil .FE x
 | .nfn,x,.fD => isNil .nfn x
 | _,_,_ => none
def jz (op : BinOp) (x y : AV) : Option AV :=
 match x,y with
 | .int k a,.int k' b => match op with
   | .shl => if b < 0 then none else some (.int k (k.wrap (a * 2 ^ (min b.toNat k.bits))))
   | .shr => if b < 0 then none else some (.int k (a.fdiv (2 ^ (min b.toNat k.bits))))
   | op => if k = k' then arith op k a b else none
 | _,_ => none
def Pg (op : UnOp) (x : AV) : Option AV :=
 match op,x with
 | .neg,.int k n => some (.int k (k.wrap (0 - n)))
 | .xor,.int k n => some (.int k (bits .xor k (if k.signed then -1 else k.max) n))
 | .not,.bool b => some (.bool (!b))
 | _,_ => none
def aH : List AV -> List AV
 | [] => []
 | x :: r => x.cells ++ aH r
def ji (H : Heap) (k : Nat) : AV -> Option (List AV × Nat)
 | .dz => some ([],0)
 | .list k' xs => if k' = k then some (aH xs,xs.length) else none
 | .sl k' b off len => match aN H b with
   | some cs => if k' = k /\ off + len * k <= cs.length then some ((cs.drop off).take (len * k),len) else none
   | none => none
 | _ => none
def Y1 : AV -> Option Nat
 | .dz => some 0
 | .list _ xs => some xs.length
 | .sl _ _ _ len => some len
 | _ => none
def xT (mx : Bool) : AV -> List AV -> Option AV
 | x,[] => some x
 | .int k a,.int _ b :: r => xT mx (.int k (if mx then (if b > a then b else a) else (if b < a then b else a))) r
 | _,_ => none
def wO (mx : Bool) : List AV -> Option AV
 | .int k a :: r => xT mx (.int k a) r
 | _ => none
def rep (zs : List AV) : Nat -> List AV
 | 0 => []
 | n + 1 => zs ++ rep zs n

def vA (c : eE) (call : Nat -> List AV -> Heap -> Option (AV × Heap)) (f : Nat) (args : List AV) (H : Heap) : Option (AV × Heap × Fp) :=
 match c.fn f with
 | none => none
 | some (.K,_) => match call f args H with
   | some (r,H') => some (r,H',.wr 0 [])
   | none => none
 | some (.T,_) => match call f args H with
   | some (r,H') => match Bc H' QZ r with
     | some (r',bs) => if H.length <= H'.length /\ U0 H.length bs = true /\ xZ H.length (H'.take H.length) = true then some (r',H'.take H.length,.wr 0 []) else none
     | none => none
   | none => none
 | some (.P,_) => if q6 args then
   match call f args [] with
   | some (r,H') => match Bc H' QZ r with
     | some (r',_) => some (r',H,.no)
     | none => none
   | none => none
   else match AQ (Bc H QZ) args with
    | some (qU,bs) => match call f qU [] with
      | some (r,H') => match Bc H' QZ r with
        | some (r',_) => if r'.flat then some (r',H,.ra) else some (r',kill H bs,.wr 0 [])
        | none => none
      | none => none
    | none => none

def fW (c : eE) (call : Nat -> List AV -> Heap -> Option (AV × Heap)) (env : Env) (H : Heap) : Kd -> Option (AV × Heap × Fp)
 | .mv x => some (ev c env x,H,.no)
 | .pick t a b => match ev c env t with
   | .bool t => some (if t then ev c env a else ev c env b,H,.no)
   | _ => none
 | .new zs => some (.ptr H.length 0,H ++ [some zs],.wr H.length [])
 | .box x => if bz (ev c env x).cells then some (.ptr H.length 0,H ++ [some (ev c env x).cells],.wr H.length []) else none
 | .build zs ps => match nK c env zs ps with
   | some cs => some (.agg cs,H,.no)
   | none => none
 | .dY k n zs ps => match nK c env (rep zs n) ps with
   | some cs => if bz cs then some (.sl k H.length 0 n,H ++ [some cs],.wr H.length []) else none
   | none => none
 | .ld ag x => match ev c env x with
   | .dw cs => match Al ag cs with
     | some v => some (v,H,.no)
     | none => none
   | .ptr b off => match aN H b with
     | some cs => match Al ag (cs.drop off) with
       | some v => some (v,H,.rd b)
       | none => none
     | none => none
   | _ => none
 | .st k a v => match ev c env a with
   | .ptr b off => match aN H b with
     | some cs => if (ev c env v).cells.length = k /\ off + k <= cs.length /\ bz (ev c env v).cells = true then
       some (.undef,H.set b (some (jv cs off (ev c env v).cells)),.wr H.length [b]) else none
     | none => none
   | _ => none
 | .lK x => match ev c env x with
   | .ptr b off => some (.ptr b off,H,.no)
   | .dw cs => some (.dw cs,H,.no)
   | .func (.func f) a b => some (.func (.func f) a b,H,.no)
   | _ => none
 | .bin op x y => match jz op (ev c env x) (ev c env y) with
   | some v => some (v,H,.no)
   | none => none
 | .eq ng t x y => match Wk t (ev c env x) (ev c env y) with
   | some e => some (.bool (if ng then !e else e),H,.no)
   | none => none
 | .un op x => match Pg op (ev c env x) with
   | some v => some (v,H,.no)
   | none => none
 | .Ci k x => match ev c env x with
   | .int _ n => some (.int k (k.wrap n),H,.no)
   | _ => none
 | .OS fn a b => some (.func fn (Da c env a) (Da c env b),H,.no)
 | .Hd k zs l cp => match ev c env l,ev c env cp with
   | .int _ l,.int _ cp => if 0 <= l /\ l <= cp /\ cp <= (lj : Int) then some (.sl k H.length 0 l.toNat,H ++ [some (rep zs l.toNat)],.wr H.length []) else none
   | _,_ => none
 | .yG k x lo hi => match Y1 (ev c env x) with
   | some n => match zY c env n n hi with
     | some h => match zY c env 0 h lo with
       | some l => match ev c env x with
         | .dz => some (.dz,H,.no)
         | .list k' xs => if k' = k then some (.list k ((xs.take h).drop l),H,.no) else none
         | .sl k' b off _ => if k' = k then some (.sl k b (off + l * k) (h - l),H,.no) else none
         | _ => none
       | none => none
     | none => none
   | none => none
 | .fX off x => match ev c env x with
   | .ptr b o => some (.ptr b (o + off),H,.no)
   | .dw cs => some (.dw (cs.drop off),H,.no)
   | _ => none
 | .HK n x hi => match zY c env n n hi with
   | some m => match ev c env x with
     | .dw cs => if n <= cs.length /\ m = n /\ bz (cs.take n) = true then some (.list 1 (cs.take n),H,.no) else none
     | .ptr b off => match aN H b with
       | some cs => if off + n <= cs.length then some (.sl 1 b off m,H,.rd b) else none
       | none => none
     | _ => none
   | none => none
 | .Wi off ag x => match ev c env x with
   | .agg cs => match Al ag (cs.drop off) with
     | some v => some (v,H,.no)
     | none => none
   | _ => none
 | .fO k x i => match ev c env x with
   | .list k' xs => match idx (ev c env i) xs.length with
     | some j => if k' = k then match xs[j]? with
       | some v => some (.dw v.cells,H,.no)
       | none => none
       else none
     | none => none
   | .sl k' b off len => match idx (ev c env i) len with
     | some j => if k' = k then some (.ptr b (off + j * k),H,.no) else none
     | none => none
   | _ => none
 | .Cy n k x i => match idx (ev c env i) n with
   | some j => match ev c env x with
     | .ptr b off => some (.ptr b (off + j * k),H,.no)
     | .dw cs => some (.dw (cs.drop (j * k)),H,.no)
     | _ => none
   | none => none
 | .ix n k ag x i => match idx (ev c env i) n with
   | some j => match ev c env x with
     | .agg cs => match Al ag (cs.drop (j * k)) with
       | some v => some (v,H,.no)
       | none => none
     | _ => none
   | none => none
 | .VY tab i => match idx (ev c env i) tab.length with
   | some j => match tab[j]? with
     | some v => some (.int .u8 v,H,.no)
     | none => none
   | none => none
 | .Ov k zs x => match ev c env x with
   | .dz => some (.undef,H,.wr H.length [])
   | .list _ [] => some (.undef,H,.wr H.length [])
   | .sl k' b off len => if len = 0 then some (.undef,H,.wr H.length []) else match aN H b with
     | some cs => if k' = k /\ off + len * k <= cs.length then some (.undef,H.set b (some (jv cs off (rep zs len))),.wr H.length [b]) else none
     | none => none
   | _ => none
 | .ext i x => match ev c env x with
   | .dB vs => match vs[i]? with
     | some v => some (v,H,.no)
     | none => none
   | _ => none
 | .call f args => vA c call f (Da c env args) H
 | .jc x args => match ev c env x with
   | .func (.func f) a b => vA c call f (a ++ Da c env args ++ b) H
   | _ => none
 | .len x => match Y1 (ev c env x) with
   | some n => some (.int .i64 n,H,.no)
   | none => none
 | .app k x y => match ji H k (ev c env y) with
   | some (news,m) => match ev c env x with
     | .dz => if m = 0 then some (.dz,H,.wr H.length []) else if m <= lj /\ bz news = true then some (.sl k H.length 0 m,H ++ [some news],.wr H.length []) else none
     | .sl k' b 0 n => match aN H b with
       | some cs => if k' = k /\ n * k <= cs.length /\ n + m <= lj /\ bz news = true then some (.sl k H.length 0 (n + m),H.set b none ++ [some (cs.take (n * k) ++ news)],.wr H.length [b]) else none
       | none => none
     | _ => none
   | none => none
 | .min xs => match wO false (Da c env xs) with
   | some v => some (v,H,.no)
   | none => none
 | .max xs => match wO true (Da c env xs) with
   | some v => some (v,H,.no)
   | none => none
 | .copy k x y => match ji H k (ev c env y) with
   | some (news,m) => match ev c env x with
     | .dz => some (.int .i64 0,H,.wr H.length [])
     | .sl k' b off n => match aN H b with
       | some cs => if k' = k /\ off + n * k <= cs.length /\ bz news = true then some (.int .i64 (min m n : Nat),H.set b (some (jv cs off (news.take (min m n * k)))),.wr H.length [b]) else none
       | none => none
     | _ => none
   | none => none
 | .bad => none

def XD (H : Heap) (env : Env) : Rv -> Option AV
 | .t i => some (get env i)
 | .c i ag => match get env i with
   | .ptr b off => match aN H b with
     | some cs => Al ag (cs.drop off)
     | none => none
   | .dw cs => Al ag cs
   | _ => none
def Mr (H : Heap) (env : Env) : List Rv -> Option (List AV)
 | [] => some []
 | r :: rs => match XD H env r,Mr H env rs with
   | some v,some vs => some (v :: vs)
   | _,_ => none
def nt : List AV -> AV
 | [x] => x
 | vs => .dB vs

end Go.Am

/- How abstract values stand for values of the model in a world. -/
namespace Go.Am

abbrev dy := List (Option (Nat × Nat))
def bQ (φ : dy) (g : Nat) : Prop := ∃ b sz : Nat,φ[b]? = some (some (g,sz))
def Rd (X : Nat -> Prop) (φ : dy) (w : World) (a : Addr) (u : Value) : Prop := ¬ X a.block /\ ¬ bQ φ a.block /\ w.cell? a = some u

inductive bT (R : Addr -> Value -> Prop) : dy -> AV -> Value -> Prop
 | any (φ : dy) (v : Value) : bT R φ .any v
 | undef (φ : dy) : bT R φ .undef (.tuple #[])
 | fy (φ : dy) : bT R φ .fy (.pointer none)
 | fD (φ : dy) : bT R φ .fD .nilFunc
 | dz (φ : dy) : bT R φ .dz (.slice none 0 0)
 | int (φ : dy) (k : IntKind) (n : Int) : bT R φ (.int k n) (.int k n)
 | bool (φ : dy) (b : Bool) : bT R φ (.bool b) (.bool b)
 | str (φ : dy) (s : ByteArray) : bT R φ (.str s) (.string s)
 | agg (φ : dy) (cs : List AV) (vs : Array Value) (hl : cs.length = vs.size) (h : ∀ (i : Nat) (c : AV) (v : Value),cs[i]? = some c -> vs[i]? = some v -> bT R φ c v) : bT R φ (.agg cs) (.agg vs)
 | dB (φ : dy) (cs : List AV) (vs : Array Value) (hl : cs.length = vs.size) (h : ∀ (i : Nat) (c : AV) (v : Value),cs[i]? = some c -> vs[i]? = some v -> bT R φ c v) : bT R φ (.dB cs) (.tuple vs)
 | func (φ : dy) (f : Fn) (as : List AV) (va : Array Value) (bs : List AV) (vb : Array Value) (Ca : as.length = va.size) (B9 : bs.length = vb.size)
   (ha : ∀ (i : Nat) (c : AV) (v : Value),as[i]? = some c -> va[i]? = some v -> bT R φ c v) (hb : ∀ (i : Nat) (c : AV) (v : Value),bs[i]? = some c -> vb[i]? = some v -> bT R φ c v) : bT R φ (.func f as bs) (.func f va vb)
 | mI (φ : dy) (k : Nat) (xs : List AV) (a : Addr) (n cap : Nat) (u : Nat -> Nat -> Value) (hn : n = xs.length) (jH : n <= cap) (hk : ∀ x ∈ xs,x.cells.length = k)
   (hu : ∀ (i j : Nat) (x c : AV),xs[i]? = some x -> x.cells[j]? = some c -> R (a.add (i * k + j)) (u i j))
   (h : ∀ (i j : Nat) (x c : AV),xs[i]? = some x -> x.cells[j]? = some c -> bT R [] c (u i j)) : bT R φ (.list k xs) (.slice (some a) n cap)
 | j8 (φ : dy) (k : Nat) : bT R φ (.list k []) (.slice none 0 0)
 | dw (φ : dy) (cs : List AV) (a : Addr) (u : Nat -> Value) (hu : ∀ (j : Nat) (c : AV),cs[j]? = some c -> R (a.add j) (u j))
   (h : ∀ (j : Nat) (c : AV),cs[j]? = some c -> bT R [] c (u j)) : bT R φ (.dw cs) (.pointer (some a))
 | ptr (φ : dy) (b off : Nat) (a : Addr) (hb : b < φ.length) (h : ∀ g sz : Nat,φ[b]? = some (some (g,sz)) -> a = ⟨g,off,none⟩) : bT R φ (.ptr b off) (.pointer (some a))
 | sl (φ : dy) (k b off len : Nat) (a : Addr) (cap : Nat) (hb : b < φ.length) (hc : len <= cap)
   (h : ∀ g sz : Nat,φ[b]? = some (some (g,sz)) -> (0 < cap -> a = ⟨g,off,none⟩) /\ off + cap * k <= sz) : bT R φ (.sl k b off len) (.slice (some a) len cap)

theorem aZ {α : Type} {l : List α} {i : Nat} (h : i < l.length) : ∃ x,l[i]? = some x := ⟨l[i],List.getElem?_eq_getElem h⟩
theorem cY {α : Type} {l : Array α} {i : Nat} (h : i < l.size) : ∃ x,l[i]? = some x := ⟨l[i],HM h⟩
theorem aA {α : Type} {l : List α} {i : Nat} {x : α} (h : l[i]? = some x) : i < l.length := (List.getElem?_eq_some_iff.1 h).1
theorem kL {α : Type} {l : Array α} {i : Nat} {x : α} (h : l[i]? = some x) : i < l.size := (eK.1 h).1

structure vK (φ φ' : dy) : Prop where
 len : φ.length <= φ'.length
 IK : ∀ (b : Nat) (p : Nat × Nat),b < φ.length -> φ'[b]? = some (some p) -> φ[b]? = some (some p)
theorem vK.refl (φ : dy) : vK φ φ := ⟨aT _,fun _ _ _ h => h⟩
theorem vK.trans {a b c : dy} (h : vK a b) (k : vK b c) : vK a c :=
 ⟨O0 h.len k.len,fun i p hi hp => h.IK i p hi (k.IK i p (fM hi h.len) hp)⟩

theorem bT.mono {R R' : Addr -> Value -> Prop} (hR : ∀ a u,R a u -> R' a u) {φ : dy} {x : AV} {v : Value} (h : bT R φ x v) : ∀ {φ' : dy},vK φ φ' -> bT R' φ' x v := by
 induction h with
 | any => intro φ' _; exact .any _ _
 | undef => intro φ' _; exact .undef _
 | fy => intro φ' _; exact .fy _
 | fD => intro φ' _; exact .fD _
 | dz => intro φ' _; exact .dz _
 | int => intro φ' _; exact .int _ _ _
 | bool => intro φ' _; exact .bool _ _
 | str => intro φ' _; exact .str _ _
 | agg φ cs vs hl h ih => intro φ' hp; exact .agg _ _ _ hl fun i c v h1 h2 => ih i c v h1 h2 hp
 | dB φ cs vs hl h ih => intro φ' hp; exact .dB _ _ _ hl fun i c v h1 h2 => ih i c v h1 h2 hp
 | func φ f as va bs vb Ca B9 ha hb Zj V4 => intro φ' hp; exact .func _ _ _ _ _ _ Ca B9 (fun i c v h1 h2 => Zj i c v h1 h2 hp) (fun i c v h1 h2 => V4 i c v h1 h2 hp)
 | mI φ k xs a n cap u hn jH hk hu h ih => intro φ' _; exact .mI _ _ _ _ _ _ u hn jH hk (fun i j x c h1 h2 => hR _ _ (hu i j x c h1 h2)) (fun i j x c h1 h2 => ih i j x c h1 h2 (.refl _))
 | j8 => intro φ' _; exact .j8 _ _
 | dw φ cs a u hu h ih => intro φ' _; exact .dw _ _ _ u (fun j c h1 => hR _ _ (hu j c h1)) (fun j c h1 => ih j c h1 (.refl _))
 | ptr φ b off a hb h => intro φ' hp; exact .ptr _ _ _ _ (fM hb hp.len) fun g sz hg => h g sz (hp.IK _ _ hb hg)
 | sl φ k b off len a cap hb hc h => intro φ' hp; exact .sl _ _ _ _ _ _ _ (fM hb hp.len) hc fun g sz hg => h g sz (hp.IK _ _ hb hg)

theorem p9 {cs : List AV} (h : q6 cs = true) : ∀ (i : Nat) (c : AV),cs[i]? = some c -> c.plain = true := by
 induction cs with
 | nil => intro i c hc; simp at hc
 | cons x r ih =>
   simp only [q6,ae] at h;intro i c hc;cases i with
   | zero => simp at hc; subst hc; exact h.1
   | succ i => simp at hc; exact ih h.2 i c hc
theorem wE {cs : List AV} (h : Gv cs = true) : ∀ (i : Nat) (c : AV),cs[i]? = some c -> c.flat = true := by
 induction cs with
 | nil => intro i c hc; simp at hc
 | cons x r ih =>
   simp only [Gv,ae] at h;intro i c hc;cases i with
   | zero => simp at hc; subst hc; exact h.1
   | succ i => simp at hc; exact ih h.2 i c hc
theorem nB {n : Nat} {cs : List AV} (h : o7 n cs = true) : ∀ (i : Nat) (c : AV),cs[i]? = some c -> c.uF n = true := by
 induction cs with
 | nil => intro i c hc; simp at hc
 | cons x r ih =>
   simp only [o7,ae] at h;intro i c hc;cases i with
   | zero => simp at hc; subst hc; exact h.1
   | succ i => simp at hc; exact ih h.2 i c hc
theorem vI {cs : List AV} (h : bz cs = true) : ∀ (i : Nat) (c : AV),cs[i]? = some c -> c.leaf = true := by
 induction cs with
 | nil => intro i c hc; simp at hc
 | cons x r ih =>
   simp only [bz,ae] at h;intro i c hc;cases i with
   | zero => simp at hc; subst hc; exact h.1
   | succ i => simp at hc; exact ih h.2 i c hc

theorem bT.dJ {R : Addr -> Value -> Prop} {φ : dy} {x : AV} {v : Value} (h : bT R φ x v) : x.plain = true -> ∀ ψ,bT R ψ x v := by
 induction h with
 | any => intro _ ψ; exact .any _ _
 | undef => intro _ ψ; exact .undef _
 | fy => intro _ ψ; exact .fy _
 | fD => intro _ ψ; exact .fD _
 | dz => intro _ ψ; exact .dz _
 | int => intro _ ψ; exact .int _ _ _
 | bool => intro _ ψ; exact .bool _ _
 | str => intro _ ψ; exact .str _ _
 | agg φ cs vs hl h ih => intro hp ψ; simp only [AV.plain] at hp; exact .agg _ _ _ hl fun i c v h1 h2 => ih i c v h1 h2 (p9 hp i c h1) ψ
 | dB φ cs vs hl h ih => intro hp ψ; simp only [AV.plain] at hp; exact .dB _ _ _ hl fun i c v h1 h2 => ih i c v h1 h2 (p9 hp i c h1) ψ
 | func φ f as va bs vb Ca B9 ha hb Zj V4 =>
   intro hp ψ;simp only [AV.plain,ae] at hp;exact .func _ _ _ _ _ _ Ca B9 (fun i c v h1 h2 => Zj i c v h1 h2 (p9 hp.1 i c h1) ψ) (fun i c v h1 h2 => V4 i c v h1 h2 (p9 hp.2 i c h1) ψ)
 | mI φ k xs a n cap u hn jH hk hu h ih => intro _ ψ; exact .mI _ _ _ _ _ _ u hn jH hk hu h
 | j8 => intro _ ψ; exact .j8 _ _
 | dw φ cs a u hu h ih => intro _ ψ; exact .dw _ _ _ u hu h
 | ptr => intro hp; simp [AV.plain] at hp
 | sl => intro hp; simp [AV.plain] at hp
theorem bT.of_flat {R : Addr -> Value -> Prop} {φ : dy} {x : AV} {v : Value} (h : bT R φ x v) : x.flat = true -> ∀ (R' : Addr -> Value -> Prop) ψ,bT R' ψ x v := by
 induction h with
 | any => intro _ _ ψ; exact .any _ _
 | undef => intro _ _ ψ; exact .undef _
 | fy => intro _ _ ψ; exact .fy _
 | fD => intro _ _ ψ; exact .fD _
 | dz => intro _ _ ψ; exact .dz _
 | int => intro _ _ ψ; exact .int _ _ _
 | bool => intro _ _ ψ; exact .bool _ _
 | str => intro _ _ ψ; exact .str _ _
 | agg φ cs vs hl h ih => intro hp R' ψ; simp only [AV.flat] at hp; exact .agg _ _ _ hl fun i c v h1 h2 => ih i c v h1 h2 (wE hp i c h1) R' ψ
 | dB φ cs vs hl h ih => intro hp R' ψ; simp only [AV.flat] at hp; exact .dB _ _ _ hl fun i c v h1 h2 => ih i c v h1 h2 (wE hp i c h1) R' ψ
 | func φ f as va bs vb Ca B9 ha hb Zj V4 =>
   intro hp R' ψ;simp only [AV.flat,ae] at hp;exact .func _ _ _ _ _ _ Ca B9 (fun i c v h1 h2 => Zj i c v h1 h2 (wE hp.1 i c h1) R' ψ) (fun i c v h1 h2 => V4 i c v h1 h2 (wE hp.2 i c h1) R' ψ)
 | mI => intro hp; simp [AV.flat] at hp
 | j8 => intro hp; simp [AV.flat] at hp
 | dw => intro hp; simp [AV.flat] at hp
 | ptr => intro hp; simp [AV.flat] at hp
 | sl => intro hp; simp [AV.flat] at hp
theorem bT.take {R : Addr -> Value -> Prop} {φ : dy} {x : AV} {v : Value} {n : Nat} (h : bT R φ x v) : x.uF n = true -> bT R (φ.take n) x v := by
 induction h with
 | any => intro _; exact .any _ _
 | undef => intro _; exact .undef _
 | fy => intro _; exact .fy _
 | fD => intro _; exact .fD _
 | dz => intro _; exact .dz _
 | int => intro _; exact .int _ _ _
 | bool => intro _; exact .bool _ _
 | str => intro _; exact .str _ _
 | agg φ cs vs hl h ih => intro hp; simp only [AV.uF] at hp; exact .agg _ _ _ hl fun i c v h1 h2 => ih i c v h1 h2 (nB hp i c h1)
 | dB φ cs vs hl h ih => intro hp; simp only [AV.uF] at hp; exact .dB _ _ _ hl fun i c v h1 h2 => ih i c v h1 h2 (nB hp i c h1)
 | func φ f as va bs vb Ca B9 ha hb Zj V4 =>
   intro hp;simp only [AV.uF,ae] at hp;exact .func _ _ _ _ _ _ Ca B9 (fun i c v h1 h2 => Zj i c v h1 h2 (nB hp.1 i c h1)) (fun i c v h1 h2 => V4 i c v h1 h2 (nB hp.2 i c h1))
 | mI φ k xs a n cap u hn jH hk hu h ih => intro _; exact .mI _ _ _ _ _ _ u hn jH hk hu h
 | j8 => intro _; exact .j8 _ _
 | dw φ cs a u hu h ih => intro _; exact .dw _ _ _ u hu h
 | ptr φ b off a hb h =>
   intro hp;have Jd : b < n := by simpa [AV.uF] using hp
   refine .ptr _ _ _ _ (by rw [bC]; omega) fun g sz hg => h g sz ?_;rw [aS Jd] at hg;exact hg
 | sl φ k b off len a cap hb hc h =>
   intro hp;have Jd : b < n := by simpa [AV.uF] using hp
   refine .sl _ _ _ _ _ _ _ (by rw [bC]; omega) hc fun g sz hg => h g sz ?_;rw [aS Jd] at hg;exact hg
theorem bT.sT {R : Addr -> Value -> Prop} {φ : dy} {x : AV} {v : Value} (h : bT R φ x v) (hl : x.leaf = true) : v.oneCell' = true := by
 cases h <;> first | rfl | simp [AV.leaf] at hl

theorem bT.cells {R : Addr -> Value -> Prop} {φ : dy} {x : AV} {v : Value} (h : bT R φ x v) (hs : bz x.cells = true) :
  x.cells.length = v.cells.size /\ ∀ (i : Nat) (c : AV),x.cells[i]? = some c -> ∃ u,v.cells[i]? = some u /\ bT R φ c u /\ u.oneCell' = true := by
 have one : ∀ {x : AV} {v : Value},x.cells = [x] -> v.cells = #[v] -> bT R φ x v -> bz x.cells = true ->
   x.cells.length = v.cells.size /\ ∀ (i : Nat) (c : AV),x.cells[i]? = some c -> ∃ u,v.cells[i]? = some u /\ bT R φ c u /\ u.oneCell' = true := by
  intro x v hx hv h hs;rw [hx,hv];refine ⟨rfl,fun i c hc => ?_⟩;cases i with
  | zero =>
    simp at hc; subst hc;refine ⟨v,by simp,h,h.sT ?_⟩;rw [hx] at hs; simpa [bz] using hs
  | succ i => simp at hc
 cases h with
 | any => simp [AV.cells,bz,AV.leaf] at hs
 | agg φ cs vs hl h =>
   refine ⟨hl,fun i c hc => ?_⟩;have hi : i < vs.size := hl ▸ aA hc;obtain ⟨u,hu⟩ := cY hi;exact ⟨u,hu,h i c u hc hu,(h i c u hc hu).sT (vI hs i c hc)⟩
 | _ => exact one rfl rfl (by first | exact .undef _ | exact .fy _ | exact .fD _ | exact .dz _ | exact .int _ _ _ | exact .bool _ _ | exact .str _ _ | exact .j8 _ _ | (constructor <;> assumption)) hs

structure cG (X : Nat -> Prop) (φ : dy) (w : World) (H : Heap) : Prop where
 len : φ.length = H.length
 Dh : ∀ g,X g -> g < w.heap.size
 live : ∀ (b : Nat) (cs : List AV),H[b]? = some (some cs) -> ∃ (g sz : Nat) (arr : Array Value) (e : TypeId),φ[b]? = some (some (g,sz)) /\ w.heap[g]? = some (.cells arr e (0,0)) /\ arr.size = sz /\ cs.length <= sz /\ ¬ X g /\
  ∀ (i : Nat) (c : AV),cs[i]? = some c -> ∃ u,arr[i]? = some u /\ bT (Rd X φ w) φ c u
 dead : ∀ b : Nat,H[b]? = some none -> φ[b]? = some none
 inj : ∀ b b' g sz nx : Nat,φ[b]? = some (some (g,sz)) -> φ[b']? = some (some (g,nx)) -> b = b'

structure fJ (φ : dy) (w : World) (φ' : dy) (w' : World) : Prop where
 os : w'.os = w.os
 tape : w'.tape = w.tape
 output : w'.output = w.output
 drawn : w.drawn <= w'.drawn
 size : w.heap.size <= w'.heap.size
 keep : ∀ g,g < w.heap.size -> ¬ bQ φ g -> w'.heap[g]? = w.heap[g]? /\ ¬ bQ φ' g
 Tm : vK φ φ'
theorem fJ.refl (φ : dy) (w : World) : fJ φ w φ w := ⟨rfl,rfl,rfl,aT _,aT _,fun _ _ h => ⟨rfl,h⟩,.refl _⟩
theorem fJ.trans {φ φ' nW : dy} {w w' WY : World} (h : fJ φ w φ' w') (k : fJ φ' w' nW WY) : fJ φ w nW WY :=
 ⟨k.os.trans h.os,k.tape.trans h.tape,k.output.trans h.output,O0 h.drawn k.drawn,O0 h.size k.size,
  fun g hg ho => ⟨(k.keep g (fM hg h.size) (h.keep g hg ho).2).1.trans (h.keep g hg ho).1,(k.keep g (fM hg h.size) (h.keep g hg ho).2).2⟩,h.Tm.trans k.Tm⟩
theorem fJ.rd {X : Nat -> Prop} {φ φ' : dy} {w w' : World} (h : fJ φ w φ' w') : ∀ a u,Rd X φ w a u -> Rd X φ' w' a u := by
 intro a u ⟨h1,h2,h3⟩;have bL := World.block_lt_of_cell? w a h3;exact ⟨h1,(h.keep _ bL h2).2,(World.cell?_of_block (h.keep _ bL h2).1).trans h3⟩
theorem fJ.rep {X : Nat -> Prop} {φ φ' : dy} {w w' : World} (h : fJ φ w φ' w') {x : AV} {v : Value} (r : bT (Rd X φ w) φ x v) : bT (Rd X φ' w') φ' x v := r.mono h.rd h.Tm
theorem fJ.drew (φ : dy) (w : World) : fJ φ w φ w.drew := ⟨rfl,rfl,rfl,Nat.le_succ _,aT _,fun _ _ h => ⟨rfl,h⟩,.refl _⟩

def nQ (X : Nat -> Prop) (φ : dy) (w : World) (env : Env) (tmps : Array Value) : Prop := ∀ i,bT (Rd X φ w) φ (get env i) (tmps.getD i undef)
theorem bE (env : Env) (d : Nat) (v : AV) (i : Nat) : get (put env d v) i = if i = d then v else get env i := by
 induction env with
 | nil => by_cases h : i = d <;> simp [put,get,h]
 | cons p r ih =>
   obtain ⟨j,u⟩ := p;unfold put;split
   ·by_cases h : i = d <;> simp [get,h]
   ·split
    ·rename_i h1 h2;subst h2;by_cases h : i = d <;> simp [get,h]
    ·rename_i h1 h2;simp only [get,ih];by_cases h : i = j
     ·subst h; simp [Ne.symm h2]
     ·simp [h]
theorem nQ.put {X : Nat -> Prop} {φ : dy} {w : World} {env : Env} {tmps : Array Value} (h : nQ X φ w env tmps) {d : Nat} (hd : d < tmps.size) {x : AV} {v : Value} (r : bT (Rd X φ w) φ x v) :
  nQ X φ w (put env d x) (tmps.setIfInBounds d v) := by
 intro i;rw [bE];by_cases hi : i = d
 ·subst hi;simp [hd,r]
 ·have := h i;simpa [hi,Array.getElem?_setIfInBounds_ne (Ne.symm hi)] using this
theorem nQ.my {X : Nat -> Prop} {φ φ' : dy} {w w' : World} {env : Env} {tmps : Array Value} (h : nQ X φ w env tmps) (k : fJ φ w φ' w') : nQ X φ' w' env tmps := fun i => k.rep (h i)

theorem Addr.add_add (a : Addr) (n m : Nat) : (a.add n).add m = a.add (n + m) := by
 unfold Addr.add;by_cases hn : n = 0
 ·subst hn; simp
 ·by_cases hm : m = 0
  ·subst hm; simp [hn]
  ·simp [hn,hm,Nat.add_assoc]
theorem Addr.jd (g o n : Nat) : Addr.add ⟨g,o,none⟩ n = ⟨g,o + n,none⟩ := Addr.add_lit g o n
end Go.Am

/- The heap relation under the steps of the machine; freezing. -/
namespace Go.Am

theorem sC {H : Heap} {b : Nat} {cs : List AV} (h : aN H b = some cs) : H[b]? = some (some cs) := by
 unfold aN at h;split at h
 ·rename_i h'; rw [h']; simpa using h
 ·cases h
theorem cG.at {X : Nat -> Prop} {φ : dy} {w : World} {H : Heap} (h : cG X φ w H) {b : Nat} {cs : List AV} (hb : aN H b = some cs) :
  ∃ (g sz : Nat) (arr : Array Value) (e : TypeId),φ[b]? = some (some (g,sz)) /\ w.heap[g]? = some (.cells arr e (0,0)) /\ arr.size = sz /\ cs.length <= sz /\ ¬ X g /\
   ∀ (i : Nat) (c : AV),cs[i]? = some c -> ∃ u,arr[i]? = some u /\ bT (Rd X φ w) φ c u := h.live b cs (sC hb)

theorem bQ.nil (g : Nat) : ¬ bQ [] g := fun ⟨b,sz,h⟩ => by simp at h
theorem zn {φ : dy} {p : Nat × Nat} {g : Nat} (h : bQ (φ ++ [some p]) g) : bQ φ g \/ g = p.1 := by
 obtain ⟨b,sz,hb⟩ := h;by_cases bL : b < φ.length
 ·rw [az bL] at hb;exact .inl ⟨b,sz,hb⟩
 ·rw [aR (by omega)] at hb
  have h0 : b - φ.length = 0 := by
   have := aA hb;simp at this; omega
  rw [h0] at hb;simp at hb;right; rw [hb]
theorem IG {φ : dy} {b g : Nat} (h : bQ (φ.set b none) g) : bQ φ g := by
 obtain ⟨c,sz,hc⟩ := h;refine ⟨c,sz,?_⟩;rw [bm] at hc;split at hc
 ·split at hc <;> simp at hc
 ·exact hc

theorem fJ.of_same {φ : dy} {w w' : World} {ψ : dy} (h : fJ [] w ψ w') : fJ φ w φ w' :=
 ⟨h.os,h.tape,h.output,h.drawn,h.size,fun g hg ho => ⟨(h.keep g hg (bQ.nil g)).1,ho⟩,.refl _⟩
theorem cG.of_same {X : Nat -> Prop} {φ : dy} {w w' : World} {H : Heap} {ψ : dy} (h : cG X φ w H) (a : fJ [] w ψ w') : cG X φ w' H := by
 have k : fJ φ w φ w' := fJ.of_same a;refine ⟨h.len,fun g hg => fM (h.Dh g hg) a.size,fun b cs hb => ?_,h.dead,h.inj⟩;obtain ⟨g,sz,arr,e,h1,h2,h3,h4,h5,h6⟩ := h.live b cs hb;refine ⟨g,sz,arr,e,h1,?_,h3,h4,h5,fun i c hc => ?_⟩
 ·rw [(a.keep g (eK.1 h2).1 (bQ.nil g)).1]; exact h2
 ·obtain ⟨u,hu,r⟩ := h6 i c hc;exact ⟨u,hu,k.rep r⟩

theorem cG.alloc {X : Nat -> Prop} {φ : dy} {w w' : World} {H : Heap} (h : cG X φ w H) {arr : Array Value} {e : TypeId} (hw : w'.heap = w.heap.push (.cells arr e (0,0)))
  (ho : w'.os = w.os) (ht : w'.tape = w.tape) (hp : w'.output = w.output) {cs : List AV} (hl : cs.length <= arr.size)
  (hc : ∀ (i : Nat) (c : AV),cs[i]? = some c -> ∃ u,arr[i]? = some u /\ bT (Rd X φ w) φ c u) (hd : w.drawn <= w'.drawn) :
  cG X (φ ++ [some (w.heap.size,arr.size)]) w' (H ++ [some cs]) /\ fJ φ w (φ ++ [some (w.heap.size,arr.size)]) w' := by
 have own : ∀ g,bQ φ g -> g < w.heap.size := by
  intro g ⟨b,sz,hb⟩;have bL : b < H.length := h.len ▸ aA hb;obtain ⟨x,hx⟩ := aZ bL;cases x with
  | none => rw [h.dead b hx] at hb; simp at hb
  | some cs =>
    obtain ⟨g',nx,arr,e,h1,h2,_⟩ := h.live b cs hx;rw [h1] at hb;simp at hb;rw [<- hb.1];exact (eK.1 h2).1
 have a : fJ φ w (φ ++ [some (w.heap.size,arr.size)]) w' := by
  refine ⟨ho,ht,hp,hd,by rw [hw]; simp,fun g hg hn => ⟨?_,?_⟩,⟨by simp,fun b p hb hp => ?_⟩⟩
  ·rw [hw,Q7,if_neg (by omega)]
  ·intro ho;rcases zn ho with h1 | h1
   ·exact hn h1
   ·simp at h1; omega
  ·rwa [az hb] at hp
 refine ⟨⟨by simp [h.len],fun g hg => ?_,fun b ds hb => ?_,fun b hb => ?_,fun b b' g sz nx h1 h2 => ?_⟩,a⟩
 ·rw [hw]; have := h.Dh g hg; simp; omega
 ·by_cases bL : b < H.length
  ·rw [az bL] at hb;obtain ⟨g,sz,ar,e',h1,h2,h3,h4,h5,h6⟩ := h.live b ds hb;refine ⟨g,sz,ar,e',by rw [az (by rw [h.len]; exact bL)]; exact h1,?_,h3,h4,h5,fun i c hc => ?_⟩
   ·rw [hw,Q7,if_neg (by have := (eK.1 h2).1; omega)]; exact h2
   ·obtain ⟨u,hu,r⟩ := h6 i c hc;exact ⟨u,hu,a.rep r⟩
  ·have ia := aA hb;simp at ia;have CF : b = H.length := by omega
   subst CF;simp at hb;subst hb;refine ⟨w.heap.size,arr.size,arr,e,by rw [<- h.len]; simp,by rw [hw]; simp,rfl,hl,fun hx => by have := h.Dh _ hx; omega,fun i c hi => ?_⟩;obtain ⟨u,hu,r⟩ := hc i c hi;exact ⟨u,hu,a.rep r⟩
 ·by_cases bL : b < H.length
  ·rw [az bL] at hb;rw [az (by rw [h.len]; exact bL)];exact h.dead b hb
  ·have ia := aA hb;simp at ia;have CF : b = H.length := by omega
   subst CF;simp at hb
 ·have new : ∀ (b g sz : Nat),(φ ++ [some (w.heap.size,arr.size)])[b]? = some (some (g,sz)) -> (b < φ.length /\ φ[b]? = some (some (g,sz)) /\ g < w.heap.size) \/ (b = φ.length /\ g = w.heap.size) := by
   intro b g sz hb;by_cases bL : b < φ.length
   ·rw [az bL] at hb;exact .inl ⟨bL,hb,own g ⟨b,sz,hb⟩⟩
   ·have ia := aA hb;simp at ia;have CF : b = φ.length := by omega
    subst CF;simp at hb;exact .inr ⟨rfl,hb.1.symm⟩
  rcases new b g sz h1 with ⟨l1,e1,g1⟩ | ⟨l1,g1⟩ <;> rcases new b' g nx h2 with ⟨l2,e2,g2⟩ | ⟨l2,g2⟩
  ·exact h.inj b b' g sz nx e1 e2
  ·omega
  ·omega
  ·omega

theorem cG.store {X : Nat -> Prop} {φ : dy} {w w' : World} {H : Heap} (h : cG X φ w H) {b g sz : Nat} {arr arr' : Array Value} {e : TypeId} {cs' : List AV}
  (lv : φ[b]? = some (some (g,sz))) (hg : w.heap[g]? = some (.cells arr e (0,0))) (qg : arr.size = sz) (hs : arr'.size = arr.size) (hw : w' = w.setRow g arr') (hX : ¬ X g)
  (hl : cs'.length <= arr'.size) (hc : ∀ (i : Nat) (c : AV),cs'[i]? = some c -> ∃ u,arr'[i]? = some u /\ bT (Rd X φ w) φ c u) :
  cG X φ w' (H.set b (some cs')) /\ fJ φ w φ w' := by
 subst hw;have a : fJ φ w φ (w.setRow g arr') := ⟨rfl,rfl,rfl,aT _,by simp,fun k _ ho => ⟨setRow_other w g k _ (fun e => ho ⟨b,sz,e ▸ lv⟩),ho⟩,.refl _⟩;refine ⟨⟨by simp [h.len],fun k hk => by simpa using h.Dh k hk,fun c ds hb => ?_,fun c hb => ?_,h.inj⟩,a⟩
 ·rw [bm] at hb;split at hb
  ·rename_i Hg;subst Hg;split at hb
   ·simp at hb;subst hb;refine ⟨g,sz,arr',e,lv,setRow_heap w g arr arr' e _ hg,by omega,by omega,hX,fun i c hi => ?_⟩;obtain ⟨u,hu,r⟩ := hc i c hi;exact ⟨u,hu,a.rep r⟩
   ·simp at hb
  ·rename_i Hg;obtain ⟨g',nx,ar,e',h1,h2,h3,h4,h5,h6⟩ := h.live c ds hb;refine ⟨g',nx,ar,e',h1,?_,h3,h4,h5,fun i c hi => ?_⟩
   ·rw [setRow_other w g g' _ (fun eq => Hg (h.inj b c g sz nx lv (eq ▸ h1)))]; exact h2
   ·obtain ⟨u,hu,r⟩ := h6 i c hi;exact ⟨u,hu,a.rep r⟩
 ·rw [bm] at hb;split at hb
  ·split at hb <;> simp at hb
  ·exact h.dead c hb

theorem cG.NB {X : Nat -> Prop} {φ : dy} {w : World} {H : Heap} (h : cG X φ w H) (b : Nat) : cG X (φ.set b none) w (H.set b none) /\ fJ φ w (φ.set b none) w := by
 have a : fJ φ w (φ.set b none) w := by
  refine ⟨rfl,rfl,rfl,aT _,aT _,fun g _ ho => ⟨rfl,fun hx => ho (IG hx)⟩,⟨by simp,fun c p hc hp => ?_⟩⟩;rw [bm] at hp;split at hp
  ·split at hp <;> simp at hp
  ·exact hp
 refine ⟨⟨by simp [h.len],h.Dh,fun c ds hb => ?_,fun c hb => ?_,fun c c' g sz nx h1 h2 => ?_⟩,a⟩
 ·rw [bm] at hb;split at hb
  ·split at hb <;> simp at hb
  ·rename_i Hg;obtain ⟨g',nx,ar,e',h1,h2,h3,h4,h5,h6⟩ := h.live c ds hb;refine ⟨g',nx,ar,e',?_,h2,h3,h4,h5,fun i c hi => ?_⟩
   ·rw [bm,if_neg Hg]; exact h1
   ·obtain ⟨u,hu,r⟩ := h6 i c hi;exact ⟨u,hu,a.rep r⟩
 ·rw [bm] at hb ⊢;split at hb
  ·rename_i Hg;rw [if_pos Hg];split at hb
   ·rename_i bL;rw [if_pos (by rw [h.len]; exact bL)]
   ·simp at hb
  ·rename_i Hg;rw [if_neg Hg];exact h.dead c hb
 ·have un : ∀ (c g sz : Nat),(φ.set b none)[c]? = some (some (g,sz)) -> φ[c]? = some (some (g,sz)) := by
   intro c g sz hc;rw [bm] at hc;split at hc
   ·split at hc <;> simp at hc
   ·exact hc
  exact h.inj c c' g sz nx (un c g sz h1) (un c' g nx h2)
def NA : dy -> List Nat -> dy
 | φ,[] => φ
 | φ,b :: r => NA (φ.set b none) r
theorem cG.kill {X : Nat -> Prop} {w : World} : ∀ (bs : List Nat) {φ : dy} {H : Heap},cG X φ w H -> cG X (NA φ bs) w (kill H bs) /\ fJ φ w (NA φ bs) w
 | [],φ,H,h => ⟨h,.refl _ _⟩
 | b :: r,φ,H,h => by
   obtain ⟨h1,a1⟩ := h.NB b;obtain ⟨h2,a2⟩ := cG.kill r h1;exact ⟨h2,a1.trans a2⟩
theorem I9 : ∀ (bs : List Nat) (φ : dy) (c : Nat) (p : Nat × Nat),(NA φ bs)[c]? = some (some p) -> φ[c]? = some (some p) /\ c ∉ bs
 | [],φ,c,p,h => ⟨h,by simp⟩
 | b :: r,φ,c,p,h => by
   obtain ⟨h1,h2⟩ := I9 r (φ.set b none) c p h;rw [bm] at h1;split at h1
   ·split at h1 <;> simp at h1
   ·rename_i Hg;exact ⟨h1,by simp [h2]; exact fun e => Hg e.symm⟩

theorem cG.move {X : Nat -> Prop} {φ : dy} {w w' : World} {H : Heap} (h : cG X φ w H) {b g sz : Nat} {arr arr' : Array Value} {e : TypeId} {cs' : List AV}
  (lv : φ[b]? = some (some (g,sz))) (hg : w.heap[g]? = some (.cells arr e (0,0))) (qg : arr.size = sz) (hs : arr'.size = arr.size) (hw : w' = w.setRow g arr') (hX : ¬ X g)
  (hl : cs'.length <= arr'.size) (hc : ∀ (i : Nat) (c : AV),cs'[i]? = some c -> ∃ u,arr'[i]? = some u /\ bT (Rd X φ w) φ c u) :
  cG X (φ.set b none ++ [some (g,sz)]) w' (H.set b none ++ [some cs']) /\ fJ φ w (φ.set b none ++ [some (g,sz)]) w' := by
 subst hw;have Xa : b < φ.length := aA lv
 have look : ∀ (c : Nat) (p : Nat × Nat),(φ.set b none ++ [some (g,sz)])[c]? = some (some p) -> (c < φ.length /\ c ≠ b /\ φ[c]? = some (some p)) \/ (c = φ.length /\ p = (g,sz)) := by
  intro c p hc;by_cases bL : c < φ.length
  ·rw [az (by simpa using bL),bm] at hc;split at hc
   ·simp_all
   ·rename_i Hg; exact .inl ⟨bL,fun e => Hg e.symm,hc⟩
  ·have ia := aA hc;simp at ia;have CF : c = φ.length := by omega
   subst CF;rw [aR (by simp)] at hc;simp at hc;exact .inr ⟨rfl,hc.symm⟩
 have a : fJ φ w (φ.set b none ++ [some (g,sz)]) (w.setRow g arr') := by
  refine ⟨rfl,rfl,rfl,aT _,by simp,fun k _ ho => ⟨setRow_other w g k _ (fun e => ho ⟨b,sz,e ▸ lv⟩),?_⟩,⟨by simp,fun c p hc hp => ?_⟩⟩
  ·intro ⟨c,s,hc⟩;rcases look c _ hc with ⟨_,_,h1⟩ | ⟨_,h1⟩
   ·exact ho ⟨c,s,h1⟩
   ·simp at h1; exact ho ⟨b,sz,h1.1 ▸ lv⟩
  ·rcases look c p hp with ⟨_,_,h1⟩ | ⟨h1,_⟩
   ·exact h1
   ·omega
 refine ⟨⟨by simp [h.len],fun k hk => by simpa using h.Dh k hk,fun c ds hb => ?_,fun c hb => ?_,fun c c' k s s' h1 h2 => ?_⟩,a⟩
 ·by_cases bL : c < H.length
  ·rw [az (by simpa using bL),bm] at hb;split at hb
   ·split at hb <;> simp at hb
   ·rename_i Hg;obtain ⟨g',nx,ar,e',h1,h2,h3,h4,h5,h6⟩ := h.live c ds hb;refine ⟨g',nx,ar,e',?_,?_,h3,h4,h5,fun i c hi => ?_⟩
    ·rw [az (by simp [h.len,bL]),bm,if_neg Hg]; exact h1
    ·rw [setRow_other w g g' _ (fun eq => Hg (h.inj b c g sz nx lv (eq ▸ h1)))]; exact h2
    ·obtain ⟨u,hu,r⟩ := h6 i c hi;exact ⟨u,hu,a.rep r⟩
  ·have ia := aA hb;simp at ia;have CF : c = H.length := by omega
   subst CF;rw [aR (by simp)] at hb;simp at hb;subst hb;refine ⟨g,sz,arr',e,?_,setRow_heap w g arr arr' e _ hg,by omega,by omega,hX,fun i c hi => ?_⟩
   ·rw [aR (by simp [h.len])]; simp [h.len]
   ·obtain ⟨u,hu,r⟩ := hc i c hi;exact ⟨u,hu,a.rep r⟩
 ·by_cases bL : c < H.length
  ·rw [az (by simpa using bL),bm] at hb;rw [az (by simp [h.len,bL]),bm];split at hb
   ·rename_i Hg;rw [if_pos Hg,if_pos (by omega)]
   ·rename_i Hg;rw [if_neg Hg]; exact h.dead c hb
  ·have ia := aA hb;simp at ia;have CF : c = H.length := by omega
   subst CF;rw [aR (by simp)] at hb;simp at hb
 ·rcases look c _ h1 with ⟨l1,n1,e1⟩ | ⟨l1,e1⟩ <;> rcases look c' _ h2 with ⟨l2,n2,e2⟩ | ⟨l2,e2⟩
  ·exact h.inj c c' k s s' e1 e2
  ·simp at e2; exact absurd (h.inj c b k s sz e1 (e2.1 ▸ lv)) n1
  ·simp at e1; exact absurd (h.inj c' b k s' sz e2 (e1.1 ▸ lv)) n2
  ·omega

theorem xY {n : Nat} : ∀ {H : Heap},xZ n H = true -> ∀ (b : Nat) (cs : List AV),H[b]? = some (some cs) -> o7 n cs = true
 | [],_,b,cs,hb => by simp at hb
 | none :: r,h,b,cs,hb => by
   cases b with
   | zero => simp at hb
   | succ b => simp at hb; exact xY (H := r) (by simpa [xZ] using h) b cs hb
 | some ds :: r,h,b,cs,hb => by
   simp only [xZ,ae] at h;cases b with
   | zero => simp at hb; subst hb; exact h.1
   | succ b => simp at hb; exact xY (H := r) h.2 b cs hb
theorem Fs {φ : dy} {n g : Nat} (h : bQ (φ.take n) g) : bQ φ g := by
 obtain ⟨b,sz,hb⟩ := h;rw [bF] at hb;split at hb
 ·exact ⟨b,sz,hb⟩
 ·simp at hb
theorem Rq {X : Nat -> Prop} {φ : dy} {w : World} {n : Nat} : ∀ a u,Rd X φ w a u -> Rd X (φ.take n) w a u := fun _ _ ⟨h1,h2,h3⟩ => ⟨h1,fun h => h2 (Fs h),h3⟩
theorem cG.take {X : Nat -> Prop} {φ : dy} {w : World} {H : Heap} (h : cG X φ w H) {n : Nat} (hn : n <= H.length) (dg : xZ n (H.take n) = true) : cG X (φ.take n) w (H.take n) := by
 refine ⟨by simp [h.len],h.Dh,fun b cs hb => ?_,fun b hb => ?_,fun b b' g sz nx h1 h2 => ?_⟩
 ·have hr := xY dg b cs hb;have bL : b < n := by have := aA hb; simp at this; omega
  rw [aS bL] at hb;obtain ⟨g,sz,ar,e,h1,h2,h3,h4,h5,h6⟩ := h.live b cs hb;refine ⟨g,sz,ar,e,by rw [aS bL]; exact h1,h2,h3,h4,h5,fun i c hi => ?_⟩;obtain ⟨u,hu,r⟩ := h6 i c hi;exact ⟨u,hu,(r.take (nB hr i c hi)).mono Rq (.refl _)⟩
 ·have bL : b < n := by have := aA hb; simp at this; omega
  rw [aS bL] at hb ⊢;exact h.dead b hb
 ·rw [bF] at h1 h2;split at h1 <;> split at h2 <;> first | exact h.inj b b' g sz nx h1 h2 | (first | simp at h1 | simp at h2)
theorem fJ.take {φ φ' : dy} {w w' : World} (h : fJ φ w φ' w') : fJ φ w (φ'.take φ.length) w' :=
 ⟨h.os,h.tape,h.output,h.drawn,h.size,fun g hg ho => ⟨(h.keep g hg ho).1,fun hx => (h.keep g hg ho).2 (Fs hx)⟩,
  ⟨by rw [bC]; have := h.Tm.len; omega,fun b p hb hp => h.Tm.IK b p hb (by rwa [aS hb] at hp)⟩⟩

/-! Freezing -/
theorem rU {f : AV -> Option (AV × List Nat)} : ∀ {xs ys : List AV} {bs : List Nat},AQ f xs = some (ys,bs) ->
  ys.length = xs.length /\ ∀ (i : Nat) (x : AV),xs[i]? = some x -> ∃ y b,f x = some (y,b) /\ ys[i]? = some y /\ ∀ c ∈ b,c ∈ bs
 | [],ys,bs,h => by simp [AQ] at h; obtain ⟨rfl,rfl⟩ := h; exact ⟨rfl,fun i x hx => by simp at hx⟩
 | x :: r,ys,bs,h => by
   simp only [AQ] at h;split at h
   ·rename_i y b yu bs' h1 h2;simp at h;obtain ⟨rfl,rfl⟩ := h;obtain ⟨hl,hm⟩ := rU h2;refine ⟨by simp [hl],fun i z hz => ?_⟩;cases i with
    | zero => simp at hz; subst hz; exact ⟨y,b,h1,by simp,fun c hc => by simp [hc]⟩
    | succ i =>
      simp at hz;obtain ⟨y',b',e1,e2,e3⟩ := hm i z hz;exact ⟨y',b',e1,by simpa using e2,fun c hc => by simp [e3 c hc]⟩
   ·cases h
theorem sj (l : List AV) : (el l).cells = l := by
 unfold el;split <;> first | rfl | skip
 rename_i x hx;cases x <;> first | rfl | (exact absurd rfl (hx _))
theorem Gk (k : Nat) : ∀ (n : Nat) (ys : List AV),n * k <= ys.length -> (OY k n ys).length = n /\ ∀ (i : Nat) (x : AV),(OY k n ys)[i]? = some x -> x.cells = (ys.drop (i * k)).take k /\ i < n
 | 0,ys,_ => ⟨rfl,fun i x hx => by simp [OY] at hx⟩
 | n + 1,ys,h => by
   have h' : n * k <= (ys.drop k).length := by rw [dS]; rw [cF] at h; omega
   obtain ⟨hl,hm⟩ := Gk k n (ys.drop k) h';refine ⟨by simp [OY,hl],fun i x hx => ?_⟩;cases i with
   | zero => simp [OY] at hx; subst hx; rw [sj]; simp
   | succ i =>
     simp [OY] at hx;obtain ⟨e1,e2⟩ := hm i x hx;refine ⟨?_,by omega⟩;rw [e1,List.drop_drop];congr 2;rw [cF]; omega
theorem iF {w : World} {g : Nat} {arr : Array Value} {e : TypeId} {fr : Nat × Nat} (h : w.heap[g]? = some (.cells arr e fr)) (o : Nat) : w.cell? ⟨g,o,none⟩ = arr[o]? := cell_of_row w g o arr e fr h

theorem C8 {X : Nat -> Prop} {φ : dy} {w : World} {H : Heap} (h : cG X φ w H) {R : Addr -> Value -> Prop} (hR : ∀ a u,Rd X φ w a u -> R a u) :
  ∀ (n : Nat) (x y : AV) (v : Value) (bs : List Nat),Bc H n x = some (y,bs) ->
   (∀ b ∈ bs,∀ g sz : Nat,φ[b]? = some (some (g,sz)) -> ∀ o u,w.cell? ⟨g,o,none⟩ = some u -> R ⟨g,o,none⟩ u) -> bT (Rd X φ w) φ x v -> bT R [] y v
 | 0,_,_,_,_,hf,_,_ => by simp [Bc] at hf
 | n + 1,x,y,v,bs,hf,hb,r => by
   have ih := C8 h hR n
   have many : ∀ {cs ys : List AV} {bs' : List Nat} {vs : Array Value},AQ (Bc H n) cs = some (ys,bs') -> (∀ b ∈ bs',b ∈ bs) -> cs.length = vs.size ->
     (∀ (i : Nat) (c : AV) (v : Value),cs[i]? = some c -> vs[i]? = some v -> bT (Rd X φ w) φ c v) ->
     ys.length = vs.size /\ ∀ (i : Nat) (c : AV) (v : Value),ys[i]? = some c -> vs[i]? = some v -> bT R [] c v := by
    intro cs ys bs' vs hm wQ hl hr;obtain ⟨Jg,Qi⟩ := rU hm;refine ⟨by omega,fun i c v hc hv => ?_⟩;obtain ⟨x,hx⟩ := aZ (l := cs) (i := i) (by have := aA hc; omega);obtain ⟨y,b,e1,e2,e3⟩ := Qi i x hx;rw [e2] at hc;simp at hc;subst hc;exact ih x _ v b e1 (fun b' ia => hb b' (wQ _ (e3 b' ia))) (hr i x v hx hv)
   cases x with
   | ptr b off =>
     simp only [Bc] at hf;split at hf
     ·rename_i cs dP;split at hf
      ·rename_i ys bs' hm;simp at hf;obtain ⟨rfl,rfl⟩ := hf;obtain ⟨g,sz,arr,e,h1,h2,h3,h4,h5,h6⟩ := h.at dP;obtain ⟨Jg,Qi⟩ := rU hm;cases r with
       | ptr _ _ _ a Xa ha =>
         obtain rfl := ha g sz h1;refine .dw _ _ _ (fun j => arr[off + j]?.getD undef) (fun j c hc => ?_) (fun j c hc => ?_)
         ·obtain ⟨x,hx⟩ := aZ (l := cs.drop off) (i := j) (by have := aA hc; omega);rw [aU] at hx;obtain ⟨u,hu,_⟩ := h6 _ _ hx;rw [Addr.jd];refine hb b (by simp) g sz h1 _ _ ?_;rw [iF h2,hu]; simp
         ·obtain ⟨x,hx⟩ := aZ (l := cs.drop off) (i := j) (by have := aA hc; omega);obtain ⟨y,b',e1,e2,e3⟩ := Qi j x hx;rw [e2] at hc;simp at hc;subst hc;rw [aU] at hx;obtain ⟨u,hu,r⟩ := h6 _ _ hx;refine ih x _ _ b' e1 (fun c hc => hb c (by simp [e3 c hc])) ?_;rw [hu]; exact r
      ·cases hf
     ·cases hf
   | sl k b off len =>
     simp only [Bc] at hf;split at hf
     ·rename_i cs dP;split at hf
      ·rename_i nG;split at hf
       ·rename_i ys bs' hm;simp at hf;obtain ⟨rfl,rfl⟩ := hf;obtain ⟨g,sz,arr,e,h1,h2,h3,h4,h5,h6⟩ := h.at dP;obtain ⟨Jg,Qi⟩ := rU hm;have Ge : ys.length = len * k := by rw [Jg,bC,dS]; omega
        obtain ⟨gl,gm⟩ := Gk k len ys (by omega);cases r with
        | sl _ _ _ _ _ a cap Xa hc ha =>
          obtain ⟨NX,jH⟩ := ha g sz h1;by_cases Gh : 0 < cap
          case neg =>
           have NQ : len = 0 := by omega
           subst NQ;refine .mI _ _ _ _ _ _ (fun _ _ => undef) gl.symm hc (fun x hx => ?_) (fun i j x c hx hc => ?_) (fun i j x c hx hc => ?_)
           all_goals simp [OY] at hx
          obtain rfl := NX Gh
          have key : ∀ (i j : Nat) (x c : AV),(OY k len ys)[i]? = some x -> x.cells[j]? = some c -> i * k + j < len * k /\ j < k /\ ys[i * k + j]? = some c := by
           intro i j x c hx hc;obtain ⟨e1,e2⟩ := gm i x hx;rw [e1,bF] at hc;split at hc
           ·rename_i hj;rw [aU] at hc;have := aA hc;exact ⟨by omega,hj,hc⟩
           ·cases hc
          refine .mI _ _ _ _ _ _ (fun i j => arr[off + (i * k + j)]?.getD undef) gl.symm hc (fun x hx => ?_) (fun i j x c hx hc => ?_) (fun i j x c hx hc => ?_)
          ·obtain ⟨i,hi⟩ := bG hx;obtain ⟨e1,e2⟩ := gm i x hi;rw [e1,bC,dS,Ge];have : i * k + k <= len * k := by rw [<- Nat.succ_mul]; exact bM _ e2
           omega
          ·obtain ⟨k1,k2,k3⟩ := key i j x c hx hc;obtain ⟨z,hz⟩ := aZ (l := (cs.drop off).take (len * k)) (i := i * k + j) (by have := aA k3; omega);rw [aS k1,aU] at hz;obtain ⟨u,hu,_⟩ := h6 _ _ hz;rw [Addr.jd];refine hb b (by simp) g sz h1 _ _ ?_;rw [iF h2,hu]; simp
          ·obtain ⟨k1,k2,k3⟩ := key i j x c hx hc;obtain ⟨z,hz⟩ := aZ (l := (cs.drop off).take (len * k)) (i := i * k + j) (by have := aA k3; omega);obtain ⟨y,b',e1,e2,e3⟩ := Qi _ z hz;rw [e2] at k3;simp at k3;subst k3;rw [aS k1,aU] at hz;obtain ⟨u,hu,r⟩ := h6 _ _ hz;refine ih z _ _ b' e1 (fun c hc => hb c (by simp [e3 c hc])) ?_;rw [hu]; exact r
       ·cases hf
      ·cases hf
     ·cases hf
   | agg cs =>
     simp only [Bc] at hf;split at hf
     ·rename_i ys bs' hm;simp at hf;obtain ⟨rfl,rfl⟩ := hf;cases r with
      | agg _ _ vs hl hr =>
        obtain ⟨l1,r1⟩ := many hm (fun _ h => h) hl hr;exact .agg _ _ _ l1 r1
     ·cases hf
   | dB cs =>
     simp only [Bc] at hf;split at hf
     ·rename_i ys bs' hm;simp at hf;obtain ⟨rfl,rfl⟩ := hf;cases r with
      | dB _ _ vs hl hr =>
        obtain ⟨l1,r1⟩ := many hm (fun _ h => h) hl hr;exact .dB _ _ _ l1 r1
     ·cases hf
   | func f as cs =>
     simp only [Bc] at hf;split at hf
     ·rename_i ys bs1 zs bs2 hm1 hm2;simp at hf;obtain ⟨rfl,rfl⟩ := hf;cases r with
      | func _ _ _ va _ vb Ca B9 ha ia =>
        obtain ⟨l1,r1⟩ := many hm1 (fun _ h => by simp [h]) Ca ha;obtain ⟨l2,r2⟩ := many hm2 (fun _ h => by simp [h]) B9 ia;exact .func _ _ _ _ _ _ l1 l2 r1 r2
     ·cases hf
   | _ =>
     simp only [Bc,ah,aJ] at hf;obtain ⟨rfl,rfl⟩ := hf;exact (r.dJ rfl []).mono hR (.refl _)
end Go.Am

/- The check that ties compact operations to the operations of the dump. -/
namespace Go.Am

def JE : Value -> AV -> Bool
 | .bool a,.bool b => a == b
 | .int k n,.int k' m => decide (k = k') && decide (n = m)
 | .slice none 0 0,.dz => true
 | .pointer none,.fy => true
 | .nilFunc,.fD => true
 | .tuple vs,.undef => vs.isEmpty
 | _,_ => false
def ql : List Value -> List AV -> Bool
 | [],[] => true
 | v :: r,x :: s => JE v x && ql r s
 | _,_ => false
def chkV : Value -> AV -> Bool
 | .agg cs,.agg ds => ql cs.toList ds
 | v,x => JE v x
def df : Operand -> E -> Bool
 | .tmp t,.t i => decide (t = i)
 | .const v,.k x => chkV v x
 | .func f,.k (.func (.func g) [] []) => decide (f = g)
 | .global g,.g i => decide (g = i)
 | _,_ => false
def jh : List Operand -> List E -> Bool
 | [],[] => true
 | x :: r,y :: s => df x y && jh r s
 | _,_ => false
def qp : Option Operand -> Option E -> Bool
 | none,none => true
 | some x,some y => df x y
 | _,_ => false
def qm (place : Nat -> Option (Nat × Nat)) : List (Nat × Operand) -> List (Nat × Nat × E) -> Bool
 | [],[] => true
 | (i,x) :: r,(off,sz,y) :: s => decide (place i = some (off,sz)) && df x y && qm place r s
 | _,_ => false

def nP (P : Program) (t : TypeId) : Option (Option Nat) :=
 match P.underlying t with
 | some (.struct _) | some (.array _ _) => match P.info? t with
   | some i => some (some i.size)
   | none => none
 | some _ => some none
 | none => none
def mz (P : Program) (t : TypeId) (k : Nat) : Bool :=
 match P.info? t with
 | some i => decide (i.size = k)
 | none => false
def nX (P : Program) (t : TypeId) (zs : List AV) : Bool :=
 match P.info? t with
 | some i => match i.zero with
   | some z => ql z.cells.toList zs && bz zs
   | none => false
 | none => false
def jb (P : Program) (t : TypeId) (k : Nat) : Bool :=
 match P.underlying t with
 | some (.slice e) => match P.info? e with
   | some i => decide (i.size = k) && decide (0 < k) && decide (i.bytes <= 1024) && (match i.zero with
     | some z => decide (z.cells.size = k)
     | none => false)
   | none => false
 | _ => false
def iD (P : Program) (t : TypeId) (zs : List AV) : Bool :=
 match P.underlying t with
 | some (.slice e) => nX P e zs
 | _ => false
def qG (P : Program) (fs : Array Field) (i : Nat) : Option (Nat × Nat) :=
 match fs[i]? with
 | some f => match P.info? f.type with
   | some j => some (f.offset,j.size)
   | none => none
 | none => none
def Bd (P : Program) : Nat -> List Field -> List Bool -> Bool
 | _,[],[] => true
 | o, f :: r, b :: s => decide (f.offset = o) && decide (f.name ≠ "_") && (match P.underlying f.type with
   | some (.int _) => b
   | some .bool => !b
   | _ => false) && Bd P (o + 1) r s
 | _,_,_ => false
def GJ (P : Program) (t : TypeId) : Et -> Bool
 | .bool => match P.underlying t with
   | some .bool => true
   | _ => false
 | .PM => match P.underlying t with
   | some (.slice _) => true
   | _ => false
 | .FE => match P.underlying t with
   | some (.pointer _) => true
   | _ => false
 | .nfn => match P.underlying t with
   | some (.func _ _ _) => true
   | _ => false
 | .str l => match P.underlying t with
   | some (.struct fs) => !P.stoodInHeld t && !P.eqGuardType P.depth t && Bd P 0 fs.toList l
   | _ => false
def isSlice (P : Program) (t : TypeId) : Bool :=
 match P.underlying t with
 | some (.slice _) => true
 | _ => false

def eqOp : BinOp -> Bool -> Bool
 | .eql,ng => !ng
 | .neq,ng => ng
 | _,_ => false
def cZ (P : Program) : Op -> Kd -> Bool
 | .move x,.mv y => df x y
 | .assign x,.mv y => df x y
 | .pick c a b,.pick c' a' b' => df c c' && df a a' && df b b'
 | .alloc t,.new zs => nX P t zs
 | .box _ x,.box y => df x y
 | .build t ps,.build zs qs => nX P t zs && (match P.underlying t with
   | some (.struct fs) => (fs.toList.all fun f => (P.info? f.type).isSome) && qm (qG P fs) ps.toList qs
   | some (.array _ e) => match P.info? e with
     | some i => qm (fun j => some (j * i.size,i.size)) ps.toList qs
     | none => false
   | _ => false)
 | .buildSlice t n ps,.dY k m zs qs => decide (n = m) && jb P t k && iD P t zs && decide (n * k <= 16777216) && qm (fun j => some (j * k,k)) ps.toList qs
 | .load t a,.ld ag y => decide (nP P t = some ag) && df a y
 | .store t a v,.st k b y => mz P t k && df a b && df v y
 | .nilCheck x,.lK y => df x y
 | .binOp op _ x y _,.bin op' x' y' => decide (op = op') && df x x' && df y y'
 | .binOp op t x y _,.eq ng et x' y' => eqOp op ng && GJ P t et && df x x' && df y y'
 | .unOp op _ x,.un op' y => decide (op = op') && df x y
 | .convert s d x,.Ci k y => (P.underlying s).isSome && (match P.underlying d with
   | some (.int k') => decide (k = k')
   | _ => false) && df x y
 | .makeFunc fn as bs,.OS fn' cs ds => decide (fn = fn') && jh as.toList cs && jh bs.toList ds
 | .makeSlice t l c,.Hd k zs l' c' => jb P t k && iD P t zs && df l l' && df c c'
 | .slice t x lo hi none,.yG k y lo' xe => jb P t k && df x y && qp lo lo' && qp hi xe
 | .fieldAddr s x f,.fX off y => (match P.underlying s with
   | some (.struct fs) => match fs[f]? with
     | some fd => decide (fd.offset = off) && (match P.info? fd.type with
       | some i => decide (i.size ≠ 0)
       | none => false)
     | none => false
   | _ => false) && df x y
 | .field s x f,.Wi off ag y => (match P.underlying s with
   | some (.struct fs) => match fs[f]? with
     | some fd => decide (fd.offset = off) && decide (nP P fd.type = some ag)
     | none => false
   | _ => false) && df x y
 | .indexAddr t x i,.fO k y j => jb P t k && df x y && df i j
 | .indexAddr t x i,.Cy n k y j => (match P.underlying t with
   | some (.array n' e) => decide (n = n') && mz P e k
   | _ => false) && df x y && df i j
 | .index t x i,.ix n k ag y j => (match P.underlying t with
   | some (.array n' e) => decide (n = n') && mz P e k && decide (nP P e = some ag)
   | _ => false) && df x y && df i j
 | .index t (.const (.string s)) i,.VY tab j => (match P.underlying t with
   | some .string => true
   | _ => false) && decide (s.data.toList.map (·.toNat) = tab) && df i j
 | .call { callee := .builtin .clear,args,argTypes },.Ov k zs x => (match args.toList,argTypes.toList with
   | [x'],[t] => jb P t k && iD P t zs && df x' x
   | _,_ => false)
 | .extract x i,.ext j y => decide (i = j) && df x y
 | .call { callee := .value (.func f),args,argTypes := _ },.call g xs => decide (f = g) && jh args.toList xs
 | .call { callee := .value x,args,argTypes := _ },.jc y xs => df x y && jh args.toList xs
 | .call { callee := .builtin .len,args,argTypes },.len y => (match args.toList,argTypes.toList with
   | [x],[t] => isSlice P t && df x y
   | _,_ => false)
 | .call { callee := .builtin .append,args,argTypes },.app k x y => (match args.toList,argTypes.toList with
   | [x',y'],[t,t'] => decide (t = t') && jb P t k && df x' x && df y' y
   | _,_ => false)
 | .call { callee := .builtin .min,args,argTypes := _ },.min xs => jh args.toList xs
 | .call { callee := .builtin .max,args,argTypes := _ },.max xs => jh args.toList xs
 | .slice t x none hi none,.HK n y xe => (match P.underlying t with
   | some (.array n' e) => decide (n = n') && mz P e 1
   | _ => false) && (df x y && qp hi xe)
 | .call { callee := .builtin .copy,args,argTypes },.copy k x y => (match args.toList,argTypes.toList with
   | [x',y'],[t,_] => jb P t k && df x' x && df y' y
   | _,_ => false)
 | _,.bad => true
 | _,_ => false

def LF (P : Program) (N : Nat) (ops : Array Oper) (o : Oper) (q : O) : Bool :=
 decide (o.dst = q.dst) && (match q.dst with
  | some d => decide (d < N)
  | none => true) && (match o.guard,q.guard with
  | none,none => true
  | some (j,want),some (g,ac0) => decide ((ops[j]?).bind (·.dst) = some g) && decide (want = ac0)
  | _,_ => false) && cZ P o.op q.kd
def aeF (P : Program) (N : Nat) (ops : Array Oper) : List Oper -> List O -> Bool
 | [],[] => true
 | o :: r,q :: s => LF P N ops o q && aeF P N ops r s
 | _,_ => false
def jI (x y : O) : Bool :=
 (match x.dst with
  | some d => !mem d y.reads && decide (y.dst ≠ some d)
  | none => true) &&
 (match y.dst with
  | some d => !mem d x.reads
  | none => true)
def jR (i j : Nat) : List (Nat × Nat) -> Bool
 | [] => false
 | p :: r => (decide (p.1 = i) && decide (p.2 = j)) || jR i j r
def direct (y : Oper) : List Nat := (y.after.toList.filter fun e => Region.binds .any e).map (·.on)
def dedup : List Nat -> List Nat
 | [] => []
 | x :: r => if mem x (dedup r) then dedup r else x :: dedup r
def G1 (zZ : List (List Nat)) (y : Oper) : List Nat := dedup (direct y ++ (dedup (direct y)).flatMap fun i => zZ.getD i [])
def acE (un : List (Nat × Nat)) (i j : Nat) (x : O) (ys : List Nat) (q : O) : Bool := mem i ys || (jI x q && (x.kd.pure || q.kd.pure || jR i j un))
def JF (un : List (Nat × Nat)) (j : Nat) (ys : List Nat) (q : O) : Nat -> List O -> Bool
 | _,[] => true
 | i,x :: r => acE un i j x ys q && JF un j ys q (i + 1) r
def Oz (un : List (Nat × Nat)) (zZ : List (List Nat)) (seen : List O) : List Oper -> List O -> Bool
 | y :: r,q :: s => ((direct y).all fun i => decide (i < seen.length)) && JF un seen.length (G1 zZ y) q 0 seen && Oz un (zZ ++ [G1 zZ y]) (seen ++ [q]) r s
 | _,_ => true
def chk (P : Program) (N : Nat) : Code -> C -> Bool
 | .skip,.skip => true
 | .ret,.ret => true
 | .exit i,.exit j => decide (i = j)
 | .region _ ops d,.aO os dr un _ => decide (d = dr) && aeF P N ops ops.toList os && (!dr || Oz un [] [] ops.toList os)
 | .seq a b,.seq x y => chk P N a x && chk P N b y
 | .cond c a b,.cond c' x y => df c c' && chk P N a x && chk P N b y
 | .block i b,.aN j x => decide (i = j) && chk P N b x
 | .loop b,.loop x => chk P N b x
 | .label _,.skip => true
 | .scope b,.seq .skip x => chk P N b x
 | _,_ => false
def chkR (P : Program) : ResultVar -> Rv -> Bool
 | .tmp t,.t i => decide (t = i)
 | .cell a t,.c i ag => decide (a = i) && decide (nP P t = some ag)
 | _,_ => false
def Cm (P : Program) : List ResultVar -> List Rv -> Bool
 | [],[] => true
 | x :: r,y :: s => chkR P x y && Cm P r s
 | _,_ => false
def chkF (P : Program) (fn : Func) (q : fK) : Bool :=
 decide (fn.ntmps = q.n) && !(fn.name == "runtime.NumGoroutine") && Cm P fn.results.toList q.res && (match fn.body with
  | some c => chk P q.n c q.body
  | none => false)
structure ON (P : Program) (c : eE) : Prop where
 mixed : P.follows .mixedOrders = true
 fn : ∀ f m q,c.fn f = some (m,q) -> ∃ fn,P.funcs[f]? = some fn /\ chkF P fn q = true
end Go.Am

/- What one operation of the dump does is what the compact operation says: the operations that call nothing. -/
namespace Go.Am

def dZ (c : eE) (X : Nat -> Prop) (φ : dy) (w : World) : Prop := ∀ g,bT (Rd X φ w) [] (.dw (c.gl g)) (.pointer (some ⟨g,0,none⟩))
theorem dZ.my {c : eE} {X : Nat -> Prop} {φ φ' : dy} {w w' : World} (h : dZ c X φ w) (a : fJ φ w φ' w') : dZ c X φ' w' := fun g => (h g).mono a.rd (.refl _)

def Ok (P : Program) (X : Nat -> Prop) (φ : dy) (w : World) (o : Oper) (a : Act) (v : AV) (H' : Heap) : Prop :=
 ∀ (K : Act -> World -> Prop) (Q : Exit -> Act -> World -> Prop),(∀ v' w' φ',bT (Rd X φ' w') φ' v v' -> cG X φ' w' H' -> fJ φ w φ' w' -> K (a.put o.dst v') w') -> o.wp P a w K Q

section
variable {P : Program} {c : eE} {X : Nat -> Prop} {φ : dy} {w : World} {env : Env} {H : Heap} {a : Act} {o : Oper}

theorem Ok.value {v : AV} {v' : Value} {w' : World} {H' : Heap} {φ' : dy} (hr : (execOp a.eval o).run P w = .ok (.value v') w') (r : bT (Rd X φ' w') φ' v v') (h : cG X φ' w' H') (k : fJ φ w φ' w') : Ok P X φ w o a v H' := by
 intro K Q hK;unfold Oper.wp;rw [hr];exact hK v' w' φ' r h k
theorem Ok.quiet {v : AV} {v' : Value} (hr : (execOp a.eval o).run P w = .ok (.value v') w) (r : bT (Rd X φ w) φ v v') (h : cG X φ w H) : Ok P X φ w o a v H := Ok.value hr r h (.refl _ _)
theorem Ok.skip {w' : World} {H' : Heap} {φ' : dy} (hr : (execOp a.eval o).run P w = .ok .skip w') (h : cG X φ' w' H') (k : fJ φ w φ' w') : Ok P X φ w o a .undef H' := by
 intro K Q hK;unfold Oper.wp;rw [hr];exact hK undef w' φ' (.undef _) h k

theorem JD {R : Addr -> Value -> Prop} {ψ : dy} {v : Value} {x : AV} (h : JE v x = true) : bT R ψ x v := by
 unfold JE at h;split at h
 ·simp at h; subst h; exact .bool _ _
 ·simp at h; obtain ⟨rfl,rfl⟩ := h; exact .int _ _ _
 ·exact .dz _
 ·exact .fy _
 ·exact .fD _
 ·rename_i vs;have : vs = #[] := by simpa using h
  subst this;exact .undef _
 ·cases h
theorem Bi {R : Addr -> Value -> Prop} {ψ : dy} : ∀ {vs : List Value} {xs : List AV},ql vs xs = true -> xs.length = vs.length /\ ∀ (i : Nat) (x : AV) (v : Value),xs[i]? = some x -> vs[i]? = some v -> bT R ψ x v
 | [],[],_ => ⟨rfl,fun i x v hx => by simp at hx⟩
 | [],_ :: _,h => by simp [ql] at h
 | _ :: _,[],h => by simp [ql] at h
 | v :: r,x :: s,h => by
   simp only [ql,ae] at h;obtain ⟨hl,hm⟩ := Bi (R := R) (ψ := ψ) h.2;refine ⟨by simp [hl],fun i y u hy hu => ?_⟩;cases i with
   | zero => simp at hy hu; subst hy; subst hu; exact JD h.1
   | succ i => simp at hy hu; exact hm i y u hy hu
theorem aaf {R : Addr -> Value -> Prop} {ψ : dy} {v : Value} {x : AV} (h : chkV v x = true) : bT R ψ x v := by
 unfold chkV at h;split at h
 ·rename_i cs ds;obtain ⟨hl,hm⟩ := Bi (R := R) (ψ := ψ) h;exact .agg _ _ _ (by simpa using hl) fun i x v hx hv => hm i x v hx (by simpa using hv)
 ·exact JD h
theorem bX (he : nQ X φ w env a.tmps) (hg : dZ c X φ w) {x : Operand} {y : E} (h : df x y = true) : bT (Rd X φ w) φ (ev c env y) (a.eval x) := by
 unfold df at h;split at h
 ·simp at h; subst h; exact he _
 ·exact aaf h
 ·simp at h; subst h;exact .func _ _ _ _ _ _ rfl rfl (fun i c v hc => by simp at hc) (fun i c v hc => by simp at hc)
 ·simp at h; subst h; exact (hg _).dJ rfl _
 ·cases h

def sJ (X : Nat -> Prop) (φ : dy) (w : World) (xs : List AV) (vs : Array Value) : Prop := xs.length = vs.size /\ ∀ (i : Nat) (x : AV) (v : Value),xs[i]? = some x -> vs[i]? = some v -> bT (Rd X φ w) φ x v
theorem mM (he : nQ X φ w env a.tmps) (hg : dZ c X φ w) : ∀ {xs : List Operand} {ys : List E},jh xs ys = true ->
  (Da c env ys).length = xs.length /\ ∀ (i : Nat) (x : AV) (v : Value),(Da c env ys)[i]? = some x -> (xs.map a.eval)[i]? = some v -> bT (Rd X φ w) φ x v
 | [],[],_ => ⟨rfl,fun i x v hx => by simp [Da] at hx⟩
 | [],_ :: _,h => by simp [jh] at h
 | _ :: _,[],h => by simp [jh] at h
 | x :: r,y :: s,h => by
   simp only [jh,ae] at h;obtain ⟨hl,hm⟩ := mM he hg h.2;refine ⟨by simp [Da,hl],fun i z v hz hv => ?_⟩;cases i with
   | zero => simp [Da] at hz hv; subst hz; subst hv; exact bX he hg h.1
   | succ i => simp [Da] at hz; simp at hv; exact hm i z v hz (by simpa using hv)

/-! Places -/
def L3 (X : Nat -> Prop) (φ : dy) (w : World) (cs : List AV) (ad : Addr) : Prop := ∀ (j : Nat) (x : AV),cs[j]? = some x -> ∃ u,w.cell? (ad.add j) = some u /\ bT (Rd X φ w) φ x u
theorem bT.FN {R : Addr -> Value -> Prop} {x : AV} {v : Value} (h : bT R [] x v) (φ : dy) : bT R φ x v := h.mono (fun _ _ h => h) ⟨Nat.zero_le _,fun b p hb => by simp at hb⟩
theorem L3.TD {cs : List AV} {v : Value} (h : bT (Rd X φ w) φ (.dw cs) v) : ∃ ad,v = .pointer (some ad) /\ L3 X φ w cs ad := by
 cases h with
 | dw _ _ ad u hu h => exact ⟨ad,rfl,fun j x hx => ⟨u j,(hu j x hx).2.2,(h j x hx).FN φ⟩⟩
theorem L3.PK (hh : cG X φ w H) {b off : Nat} {cs : List AV} (hb : aN H b = some cs) {v : Value} (h : bT (Rd X φ w) φ (.ptr b off) v) :
  ∃ g sz arr e,v = .pointer (some ⟨g,off,none⟩) /\ φ[b]? = some (some (g,sz)) /\ w.heap[g]? = some (.cells arr e (0,0)) /\ arr.size = sz /\ cs.length <= sz /\ ¬ X g /\
   (∀ (i : Nat) (c : AV),cs[i]? = some c -> ∃ u,arr[i]? = some u /\ bT (Rd X φ w) φ c u) /\ L3 X φ w (cs.drop off) ⟨g,off,none⟩ := by
 obtain ⟨g,sz,arr,e,h1,h2,h3,h4,h5,h6⟩ := hh.at hb;cases h with
 | ptr _ _ _ ad Xa hp =>
   obtain rfl := hp g sz h1;refine ⟨g,sz,arr,e,rfl,h1,h2,h3,h4,h5,h6,fun j x hx => ?_⟩;rw [aU] at hx;obtain ⟨u,hu,r⟩ := h6 _ _ hx;exact ⟨u,by rw [Addr.jd,iF h2]; exact hu,r⟩
theorem L3.values {cs : List AV} {ad : Addr} (h : L3 X φ w cs ad) : ∀ n,n <= cs.length -> ∃ vs : List Value,vs.length = n /\ (∀ (j : Nat) (v : Value),vs[j]? = some v -> w.cell? (ad.add j) = some v) /\
  ∀ (j : Nat) (x : AV) (v : Value),(cs.take n)[j]? = some x -> vs[j]? = some v -> bT (Rd X φ w) φ x v
 | 0,_ => ⟨[],rfl,fun j v hv => by simp at hv,fun j x v hx => by simp at hx⟩
 | n + 1,hn => by
   obtain ⟨vs,hl,h1,h2⟩ := L3.values h n (by omega);obtain ⟨x,hx⟩ := aZ (l := cs) (i := n) (by omega);obtain ⟨u,hu,r⟩ := h n x hx;refine ⟨vs ++ [u],by simp [hl],fun j v hv => ?_,fun j y v hy hv => ?_⟩
   ·by_cases hj : j < vs.length
    ·rw [az hj] at hv; exact h1 j v hv
    ·have bL := aA hv;simp at bL;have hje : j = n := by omega
     subst hje;rw [aR (by omega)] at hv;simp [hl] at hv;subst hv;exact hu
   ·by_cases hj : j < vs.length
    ·rw [az hj] at hv;rw [aS (by omega)] at hy;exact h2 j y v (by rw [aS (by omega)]; exact hy) hv
    ·have bL := aA hv;simp at bL;have hje : j = n := by omega
     subst hje;rw [aR (by omega)] at hv;simp [hl] at hv;subst hv;rw [aS (by omega),hx] at hy;simp at hy;subst hy;exact r

theorem uz {t : TypeId} {i : TypeInfo} (h : P.info? t = some i) : (typeInfo t).run P w = .ok i w := by simp [typeInfo,h]
theorem iS {t : TypeId} {i : TypeInfo} (h : P.info? t = some i) : (sizeOf t).run P w = .ok i.size w := by simp [sizeOf,uz h]
theorem rF {t : TypeId} {i : TypeInfo} {z : Value} (h : P.info? t = some i) (hz : i.zero = some z) : (zeroValue t).run P w = .ok z w := by simp [zeroValue,uz h,hz]

theorem G5 {t : TypeId} {k : Nat} (h : nP P t = some (some k)) : ∃ i,P.info? t = some i /\ i.size = k /\ (isAgg t).run P w = .ok true w := by
 unfold nP at h;split at h
 ·rename_i fs hu;split at h
  ·rename_i i hi;exact ⟨i,hi,by simpa using h,by simp [isAgg,run_underlying hu]⟩
  ·cases h
 ·rename_i n e hu;split at h
  ·rename_i i hi;exact ⟨i,hi,by simpa using h,by simp [isAgg,run_underlying hu]⟩
  ·cases h
 ·simp at h
 ·cases h
theorem tg {t : TypeId} (h : nP P t = some none) : (isAgg t).run P w = .ok false w := by
 unfold nP at h;split at h
 ·split at h <;> simp at h
 ·split at h <;> simp at h
 ·rename_i d h1 h2 hu;simp only [isAgg,Sem.run_bind,run_underlying hu,Result.andThen_ok];rfl
 ·cases h
theorem K0 {t : TypeId} {ag : Option Nat} (ha : nP P t = some ag) {cs : List AV} {x : AV} (hx : Al ag cs = some x) {ad : Addr} (hp : L3 X φ w cs ad) :
  ∃ v,(loadVar t ad).run P w = .ok v w /\ bT (Rd X φ w) φ x v := by
 cases ag with
 | some k =>
   obtain ⟨i,hi,hk,Gj⟩ := G5 (w := w) ha;simp only [Al] at hx;split at hx
   ·rename_i hle;simp at hx;subst hx;obtain ⟨vs,hl,h1,h2⟩ := hp.values k hle;have hlc := run_loadCells_list (P := P) w ad vs h1;refine ⟨.agg vs.toArray,?_,.agg _ _ _ (by simp [hl]; omega) fun i c v hc hv => h2 i c v hc (by simpa using hv)⟩;simp only [loadVar,Sem.run_bind,Gj,Result.andThen_ok,if_true,iS hi,hk];rw [<- hl,hlc];simp
   ·cases hx
 | none =>
   have Gj := tg (P := P) (w := w) ha;simp only [Al] at hx;cases cs with
   | nil => simp at hx
   | cons y r =>
     simp at hx;subst hx;obtain ⟨u,hu,r⟩ := hp 0 y rfl;rw [Addr.add_zero'] at hu;refine ⟨u,?_,r⟩;simp only [loadVar,Sem.run_bind,Gj,Result.andThen_ok,bn,if_false,run_load,hu]

theorem Tr {t : TypeId} {ag : Option Nat} (ha : nP P t = some ag) {cs : List AV} {vs : Array Value} (hl : cs.length = vs.size)
  (hr : ∀ (i : Nat) (c : AV) (v : Value),cs[i]? = some c -> vs[i]? = some v -> bT (Rd X φ w) φ c v) {off : Nat} {x : AV} (hx : Al ag (cs.drop off) = some x) :
  ∃ v,(part t vs off).run P w = .ok v w /\ bT (Rd X φ w) φ x v := by
 cases ag with
 | some k =>
   obtain ⟨i,hi,hk,Gj⟩ := G5 (w := w) ha;simp only [Al] at hx;split at hx
   ·rename_i hle;simp at hx;subst hx;rw [dS] at hle;refine ⟨.agg (vs.extract off (off + k)),?_,.agg _ _ _ ?_ fun j c v hc hv => ?_⟩
    ·simp only [part,Sem.run_bind,Gj,Result.andThen_ok,if_true,iS hi,hk,Sem.run_pure]
    ·simp only [bC,dS,Array.size_extract]; omega
    ·have hjk : j < k := by have := aA hc; simp only [bC] at this; omega
     rw [aS hjk,aU] at hc
     have Ul : vs[off + j]? = some v := by
      rw [Array.getElem?_extract] at hv;split at hv
      ·exact hv
      ·cases hv
     exact hr _ c v hc Ul
   ·cases hx
 | none =>
   have Gj := tg (P := P) (w := w) ha;simp only [Al,List.head?_drop] at hx;have bL := aA hx;obtain ⟨v,hv⟩ := cY (l := vs) (i := off) (by omega);exact ⟨v,by simp only [part,Sem.run_bind,Gj,Result.andThen_ok,bn,if_false,hv,Sem.run_pure],hr off x v hx hv⟩

theorem iz {k : IntKind} {n : Int} {v : Value} (h : bT (Rd X φ w) φ (.int k n) v) : v = .int k n := by cases h; rfl
theorem ny {b : Bool} {v : Value} (h : bT (Rd X φ w) φ (.bool b) v) : v = .bool b := by cases h; rfl

theorem aaM {op : BinOp} {t : TypeId} {k k' : IntKind} {x y : Int} {r : AV} (h : jz op (.int k x) (.int k' y) = some r) :
  ∃ v,(binOp op t (.int k x) (.int k' y)).run P w = .ok v w /\ ∀ R ψ,bT R ψ r v := by
 cases op <;> simp only [jz,arith] at h
 case shl =>
  split at h
  ·cases h
  ·rename_i hn;simp at h; subst h;exact ⟨_,by simp [binOp,Op.shift,hn],fun _ _ => .int _ _ _⟩
 case shr =>
  split at h
  ·cases h
  ·rename_i hn;simp at h; subst h;exact ⟨_,by simp [binOp,Op.shift,hn],fun _ _ => .int _ _ _⟩
 all_goals
  split at h
  ·rename_i hk;subst hk
   first
    | (simp at h; subst h; first | exact ⟨_,by simp [go_sem],fun _ _ => .int _ _ _⟩ | exact ⟨_,by simp [go_sem],fun _ _ => .bool _ _⟩)
    | (split at h
       ·cases h
       ·rename_i hn;simp at h; subst h;exact ⟨_,by simp [go_sem,hn],fun _ _ => .int _ _ _⟩)
  ·cases h

theorem ab5 {l : List Bool} {xs ys : List AV} {e : Bool} (h : zT (true :: l) xs ys = some e) :
  ∃ k a r b s e',xs = .int k a :: r /\ ys = .int k b :: s /\ zT l r s = some e' /\ e = (a == b && e') := by
 cases xs with
 | nil => simp [zT] at h
 | cons x r =>
   cases ys with
   | nil => cases x <;> simp [zT] at h
   | cons y s =>
     cases x <;> cases y <;> simp [zT] at h
     rename_i k a k' b;obtain ⟨rfl,h⟩ := h;split at h
     ·rename_i e' he;simp at h;exact ⟨k,a,r,b,s,e',rfl,rfl,he,h.symm⟩
     ·cases h
theorem ZT {l : List Bool} {xs ys : List AV} {e : Bool} (h : zT (false :: l) xs ys = some e) :
  ∃ a r b s e',xs = .bool a :: r /\ ys = .bool b :: s /\ zT l r s = some e' /\ e = (a == b && e') := by
 cases xs with
 | nil => simp [zT] at h
 | cons x r =>
   cases ys with
   | nil => cases x <;> simp [zT] at h
   | cons y s =>
     cases x <;> cases y <;> simp [zT] at h
     rename_i a b;split at h
     ·rename_i e' he;simp at h;exact ⟨a,r,b,s,e',rfl,rfl,he,h.symm⟩
     ·cases h
theorem yH (d : Nat) : ∀ (fs : List Field) (l : List Bool) (off : Nat) (xs ys : List AV) (vx vy : Array Value) (e : Bool),Bd P off fs l = true -> zT l (xs.drop off) (ys.drop off) = some e ->
  xs.length = vx.size -> ys.length = vy.size -> (∀ (i : Nat) (c : AV) (v : Value),xs[i]? = some c -> vx[i]? = some v -> bT (Rd X φ w) φ c v) ->
  (∀ (i : Nat) (c : AV) (v : Value),ys[i]? = some c -> vy[i]? = some v -> bT (Rd X φ w) φ c v) -> (Op.eqFields (d + 1) vx vy fs).run P w = .ok e w
 | [],[],off,xs,ys,vx,vy,e,_,he,_,_,_,_ => by
   generalize xs.drop off = a at he;generalize ys.drop off = b at he;cases a <;> cases b <;> simp [zT] at he
   subst he;rfl
 | [],_ :: _,_,_,_,_,_,_,h,_,_,_,_,_ => by simp [Bd] at h
 | _ :: _,[],_,_,_,_,_,_,h,_,_,_,_,_ => by simp [Bd] at h
 | f :: fs,b :: l,off,xs,ys,vx,vy,e,h,he,CB,CA,hx,hy => by
   simp only [Bd,ae,decide_eq_true_eq] at h;obtain ⟨⟨⟨V8,Jf⟩,LZ⟩,Jb⟩ := h;have ih := fun e he => yH d fs l (off + 1) xs ys vx vy e Jb he CB CA hx hy
   have cell : ∀ (zs : List AV) (vz : Array Value) (z : AV) (r : List AV),zs.length = vz.size -> zs.drop off = z :: r -> (∃ v,vz[off]? = some v) /\ zs[off]? = some z /\ zs.drop (off + 1) = r := by
    intro zs vz z r hl hd
    have h0 : zs[off]? = some z := by
     have h := congrArg (·[0]?) hd;simp only [aU,List.getElem?_cons_zero,O3] at h;exact h
    refine ⟨cY (by have := aA h0; omega),h0,?_⟩;rw [<- List.tail_drop,hd]; rfl
   split at LZ
   ·rename_i k hu;subst LZ;have Gj : nP P f.type = some none := by simp [nP,hu]
    have hna := tg (P := P) (w := w) Gj;obtain ⟨kx,a,r,b',s,e',hdx,hdy,hee,rfl⟩ := ab5 he;obtain ⟨⟨vx0,hvx⟩,A5,W7⟩ := cell xs vx _ _ CB hdx;obtain ⟨⟨vy0,hvy⟩,hy0,hy1⟩ := cell ys vy _ _ CA hdy;obtain rfl := iz (hx off _ vx0 A5 hvx);obtain rfl := iz (hy off _ vy0 hy0 hvy);have ih' := ih e' (by rw [W7,hy1]; exact hee);simp only [Op.eqFields,Jf,ne_eq,not_false_eq_true,if_true,part,Sem.run_bind,hna,Result.andThen_ok,bn,if_false,V8,hvx,hvy,Sem.run_pure,run_equalIn_int w d f.type kx k a b' hu];cases hab : (a == b') <;> simp [ih']
   ·rename_i hu;simp only [bH] at LZ;subst LZ;have Gj : nP P f.type = some none := by simp [nP,hu]
    have hna := tg (P := P) (w := w) Gj;obtain ⟨a,r,b',s,e',hdx,hdy,hee,rfl⟩ := ZT he;obtain ⟨⟨vx0,hvx⟩,A5,W7⟩ := cell xs vx _ _ CB hdx;obtain ⟨⟨vy0,hvy⟩,hy0,hy1⟩ := cell ys vy _ _ CA hdy;obtain rfl := ny (hx off _ vx0 A5 hvx);obtain rfl := ny (hy off _ vy0 hy0 hvy);have ih' := ih e' (by rw [W7,hy1]; exact hee);simp only [Op.eqFields,Jf,ne_eq,not_false_eq_true,if_true,part,Sem.run_bind,hna,Result.andThen_ok,bn,if_false,V8,hvx,hvy,Sem.run_pure,run_equalIn_bool w d f.type a b' hu];cases hab : (a == b') <;> simp [ih']
   ·cases LZ
end
end Go.Am

/- What one operation of the dump does, continued: memory. -/
set_option linter.unusedSimpArgs false
namespace Go.Am
section
variable {P : Program} {c : eE} {X : Nat -> Prop} {φ : dy} {w : World} {env : Env} {H : Heap} {a : Act} {o : Oper}

def Cs (X : Nat -> Prop) (φ : dy) (w : World) (cs : List AV) (vs : List Value) : Prop := cs.length = vs.length /\ ∀ (i : Nat) (c : AV) (v : Value),cs[i]? = some c -> vs[i]? = some v -> bT (Rd X φ w) φ c v
theorem Cs.get {cs : List AV} {vs : List Value} (h : Cs X φ w cs vs) {i : Nat} {c : AV} (hc : cs[i]? = some c) : ∃ u,vs[i]? = some u /\ bT (Rd X φ w) φ c u := by
 obtain ⟨u,hu⟩ := aZ (l := vs) (i := i) (h.1 ▸ aA hc);exact ⟨u,hu,h.2 i c u hc hu⟩
theorem Cs.append {cs ds : List AV} {vs us : List Value} (h : Cs X φ w cs vs) (k : Cs X φ w ds us) : Cs X φ w (cs ++ ds) (vs ++ us) := by
 refine ⟨by simp [h.1,k.1],fun i c v hc hv => ?_⟩;by_cases hi : i < cs.length
 ·rw [az hi] at hc;rw [az (h.1 ▸ hi)] at hv;exact h.2 i c v hc hv
 ·rw [aR (by omega)] at hc;rw [aR (by have := h.1; omega)] at hv;rw [h.1] at hc;exact k.2 _ c v hc hv
theorem Cs.take {cs : List AV} {vs : List Value} (h : Cs X φ w cs vs) (n : Nat) : Cs X φ w (cs.take n) (vs.take n) := by
 refine ⟨by simp [h.1],fun i c v hc hv => ?_⟩;have hi : i < n := by have := aA hc; simp at this; omega
 rw [aS hi] at hc hv;exact h.2 i c v hc hv
theorem Cs.drop {cs : List AV} {vs : List Value} (h : Cs X φ w cs vs) (n : Nat) : Cs X φ w (cs.drop n) (vs.drop n) := by
 refine ⟨by simp [h.1],fun i c v hc hv => ?_⟩;rw [aU] at hc hv;exact h.2 _ c v hc hv
theorem Cs.jv {cs ds : List AV} {vs us : List Value} (h : Cs X φ w cs vs) (k : Cs X φ w ds us) (off : Nat) : Cs X φ w (jv cs off ds) (vs.take off ++ us ++ vs.drop (off + us.length)) := by
 unfold Am.jv;rw [<- k.1];exact ((h.take off).append k).append (h.drop _)
theorem bT.cs {x : AV} {v : Value} (h : bT (Rd X φ w) φ x v) (hs : bz x.cells = true) : Cs X φ w x.cells v.cells.toList /\ ∀ u ∈ v.cells.toList,u.oneCell' = true := by
 obtain ⟨hl,hm⟩ := h.cells hs;refine ⟨⟨by simpa using hl,fun i c u hc hu => ?_⟩,fun u hu => ?_⟩
 ·obtain ⟨u',h1,h2,_⟩ := hm i c hc;simp at hu;rw [h1] at hu;simp at hu;subst hu;exact h2
 ·obtain ⟨i,hi⟩ := bG hu;obtain ⟨c,hc⟩ := aZ (l := x.cells) (i := i) (by have := aA hi; simp at this; omega);obtain ⟨u',h1,_,h3⟩ := hm i c hc;simp at hi;rw [h1] at hi;simp at hi;subst hi;exact h3
theorem Cs.sT {cs : List AV} {vs : List Value} (h : Cs X φ w cs vs) (hl : bz cs = true) : ∀ u ∈ vs,u.oneCell' = true := by
 intro u hu;obtain ⟨i,hi⟩ := bG hu;obtain ⟨c,hc⟩ := aZ (l := cs) (i := i) (by have := aA hi; have := h.1; omega);exact (h.2 i c u hc hi).sT (vI hl i c hc)
theorem rn {t : TypeId} {zs : List AV} (h : nX P t zs = true) : ∃ i z,P.info? t = some i /\ i.zero = some z /\ Cs X φ w zs z.cells.toList /\ bz zs = true := by
 unfold nX at h;split at h
 ·rename_i i hi;split at h
  ·rename_i z hz;simp only [ae] at h;exact ⟨i,z,hi,hz,Bi h.1,h.2⟩
  ·cases h
 ·cases h
theorem jg {t : TypeId} {k : Nat} (h : jb P t k = true) : ∃ e i z,P.underlying t = some (.slice e) /\ P.info? e = some i /\ i.size = k /\ 0 < k /\ i.bytes <= 1024 /\ i.zero = some z /\ z.cells.size = k := by
 unfold jb at h;split at h
 ·rename_i e hu;split at h
  ·rename_i i hi;simp only [ae,decide_eq_true_eq] at h;obtain ⟨⟨⟨h1,h2⟩,h3⟩,h4⟩ := h;split at h4
   ·rename_i z hz;exact ⟨e,i,z,hu,hi,h1,h2,h3,hz,by simpa using h4⟩
   ·cases h4
  ·cases h
 ·cases h

theorem sI (hh : cG X φ w H) {arr : Array Value} {e : TypeId} {cs : List AV} {w1 : World} (hw : w1.heap = w.heap) (ho : w1.os = w.os) (ht : w1.tape = w.tape) (hp : w1.output = w.output)
  (hl : cs.length <= arr.size) (hc : ∀ (i : Nat) (c : AV),cs[i]? = some c -> ∃ u,arr[i]? = some u /\ bT (Rd X φ w) φ c u) (hd : w.drawn <= w1.drawn := by first | exact aT _ | exact Nat.le_succ _) :
  cG X (φ ++ [some (w.heap.size,arr.size)]) (w1.alloc (.cells arr e)) (H ++ [some cs]) /\ fJ φ w (φ ++ [some (w.heap.size,arr.size)]) (w1.alloc (.cells arr e)) :=
 hh.alloc (w' := w1.alloc (.cells arr e)) (e := e) (by simp [World.alloc,hw]) ho ht hp hl hc hd
theorem Cs.at {cs : List AV} {vs : List Value} {arr : Array Value} (h : Cs X φ w cs vs) (hv : ∀ (i : Nat) (u : Value),vs[i]? = some u -> arr[i]? = some u) : ∀ (i : Nat) (c : AV),cs[i]? = some c -> ∃ u,arr[i]? = some u /\ bT (Rd X φ w) φ c u := by
 intro i c hc;obtain ⟨u,hu,r⟩ := h.get hc;exact ⟨u,hv i u hu,r⟩
theorem TJ {R : Addr -> Value -> Prop} {n g sz : Nat} (hn : φ.length = n) : bT R (φ ++ [some (g,sz)]) (.ptr n 0) (.pointer (some ⟨g,0,none⟩)) := by
 refine .ptr _ _ _ _ (by simp [hn]) fun g' nx h => ?_;subst hn;simp at h;rw [h.1]
theorem KX {R : Addr -> Value -> Prop} {n g sz k len cap : Nat} (hn : φ.length = n) (hc : len <= cap) (hs : cap * k <= sz) : bT R (φ ++ [some (g,sz)]) (.sl k n 0 len) (.slice (some ⟨g,0,none⟩) len cap) := by
 refine .sl _ _ _ _ _ _ _ (by simp [hn]) hc fun g' nx h => ?_;subst hn;simp at h;obtain ⟨rfl,rfl⟩ := h;exact ⟨fun _ => rfl,by omega⟩
theorem TI {R : Addr -> Value -> Prop} {ψ : dy} {n g sz k len cap : Nat} (hn : ψ.length = n) (hc : len <= cap) (hs : cap * k <= sz) : bT R (ψ ++ [some (g,sz)]) (.sl k n 0 len) (.slice (some ⟨g,0,none⟩) len cap) := KX hn hc hs

theorem PF {t : TypeId} {zs : List AV} (fu : o.op = .alloc t) (hh : cG X φ w H) (hz : nX P t zs = true) : Ok P X φ w o a (.ptr H.length 0) (H ++ [some zs]) := by
 obtain ⟨i,z,hi,hz,dP,_⟩ := rn (X := X) (φ := φ) (w := w) hz;obtain ⟨h1,h2⟩ := sI hh (w1 := w) (arr := z.cells) (e := t) rfl rfl rfl rfl (by rw [dP.1]; simp) (dP.at (by simp));refine Ok.value ?_ (TJ hh.len) h1 h2;simp [execOp,fu,Instr.alloc,rF hi hz,newVar,newRow]
theorem agj {t : TypeId} {x : Operand} {v : AV} (fu : o.op = .box t x) (hh : cG X φ w H) (r : bT (Rd X φ w) φ v (a.eval x)) (hs : bz v.cells = true) :
  Ok P X φ w o a (.ptr H.length 0) (H ++ [some v.cells]) := by
 obtain ⟨dP,_⟩ := r.cs hs;obtain ⟨h1,h2⟩ := sI hh (w1 := w) (arr := (a.eval x).cells) (e := t) rfl rfl rfl rfl (by rw [dP.1]; simp) (dP.at (by simp));refine Ok.value ?_ (TJ hh.len) h1 h2;simp [execOp,fu,Instr.box,newVar,newRow]

theorem aio {t : TypeId} {x : Operand} {y : E} {ag : Option Nat} {v : AV} {H' : Heap} {fl : Fp} {call : Nat -> List AV -> Heap -> Option (AV × Heap)} (fu : o.op = .load t x) (hh : cG X φ w H) (r : bT (Rd X φ w) φ (ev c env y) (a.eval x))
  (ha : nP P t = some ag) (hs : fW c call env H (.ld ag y) = some (v,H',fl)) : Ok P X φ w o a v H' := by
 have go : ∀ {cs : List AV} {ad : Addr},a.eval x = .pointer (some ad) -> L3 X φ w cs ad -> Al ag cs = some v -> Ok P X φ w o a v H := by
  intro cs ad hx hp hv;obtain ⟨u,h1,h2⟩ := K0 ha hv hp;exact Ok.quiet (by simp [execOp,fu,hx,Instr.loadAt,Instr.sureAddr,h1]) h2 hh
 simp only [fW] at hs;split at hs
 ·rename_i cs hc;split at hs
  ·rename_i u hu;simp at hs;obtain ⟨rfl,rfl,rfl⟩ := hs;rw [hc] at r;obtain ⟨ad,h1,h2⟩ := L3.TD r;exact go h1 h2 hu
  ·cases hs
 ·rename_i b off hc;split at hs
  ·rename_i cs hb;split at hs
   ·rename_i u hu;simp at hs;obtain ⟨rfl,rfl,rfl⟩ := hs;rw [hc] at r;obtain ⟨g,sz,arr,e,h1,_,_,_,_,_,_,h2⟩ := L3.PK hh hb r;exact go h1 h2 hu
   ·cases hs
  ·cases hs
 ·cases hs

theorem gC {cs vs : List AV} {off : Nat} (h : off + vs.length <= cs.length) : (jv cs off vs).length = cs.length := by
 unfold jv;simp only [bN,bC,dS];omega
theorem aaI (l us : List Value) (off n i : Nat) (h : off + us.length <= n) (hn : n <= l.length) (hi : i < n) :
  (l.take off ++ us ++ l.drop (off + us.length))[i]? = ((l.take n).take off ++ us ++ (l.take n).drop (off + us.length))[i]? := by
 have e1 : (l.take off).length = off := by simp; omega
 have e2 : ((l.take n).take off).length = off := by simp; omega
 by_cases h1 : i < off
 ·rw [dj,dj,az (by omega),az (by omega),aS h1,aS h1,aS hi]
 ·by_cases h2 : i < off + us.length
  ·have f1 : i < (l.take off ++ us).length := by rw [bN,e1]; omega
   have f2 : i < ((l.take n).take off ++ us).length := by rw [bN,e2]; omega
   rw [az f1,az f2,aR (by omega),aR (by omega),e1,e2]
  ·have f1 : (l.take off ++ us).length = off + us.length := by rw [bN,e1]
   have f2 : ((l.take n).take off ++ us).length = off + us.length := by rw [bN,e2]
   rw [aR (by omega),aR (by omega),f1,f2,aU,aU,aS (by omega)]
theorem Di (hh : cG X φ w H) {b off : Nat} {cs : List AV} (hb : aN H b = some cs) {v : Value} (r : bT (Rd X φ w) φ (.ptr b off) v) {ds : List AV} {us : List Value} (dP : Cs X φ w ds us)
  (h1 : ∀ u ∈ us,u.oneCell' = true) (nG : off + ds.length <= cs.length) :
  ∃ g w',v = .pointer (some ⟨g,off,none⟩) /\ (storeCells ⟨g,off,none⟩ us).run P w = .ok () w' /\ cG X φ w' (H.set b (some (jv cs off ds))) /\ fJ φ w φ w' := by
 obtain ⟨g,sz,arr,e,rfl,lv,hg,qg,hle,hX,hm,_⟩ := L3.PK hh hb r;have HA := run_storeCells_at P g off e us 0 arr w hg (by rw [<- dP.1]; omega) h1;simp only [O3] at HA
 have zJ : (arr.toList.take off ++ us ++ arr.toList.drop (off + us.length)).toArray.size = arr.size := by
  simp only [rm,bN,bC,dS,pk,<- dP.1]; omega
 have key : ∀ (i : Nat) (x : AV),(jv cs off ds)[i]? = some x -> ∃ u,(arr.toList.take off ++ us ++ arr.toList.drop (off + us.length)).toArray[i]? = some u /\ bT (Rd X φ w) φ x u := by
  intro i x hx
  have CE : Cs X φ w (cs.take cs.length) (arr.toList.take cs.length) := by
   refine ⟨by simp; omega,fun i c u hc hu => ?_⟩;have hi : i < cs.length := by have := aA hc; simp at this; omega
   rw [aS hi] at hc hu;obtain ⟨u',h1,h2⟩ := hm i c hc;simp at hu;rw [h1] at hu;simp at hu;subst hu;exact h2
  rw [List.take_length] at CE;have hov := CE.jv dP off;obtain ⟨u,hu,r⟩ := hov.get hx;refine ⟨u,?_,r⟩;have hi : i < cs.length := by have := aA hx; rw [gC nG] at this; exact this
  have hul := dP.1;simp only [vR];rw [<- hu];exact aaI arr.toList us off cs.length i (by omega) (by simp; omega) hi
 obtain ⟨k1,k2⟩ := hh.store (cs' := jv cs off ds) (arr' := (arr.toList.take off ++ us ++ arr.toList.drop (off + us.length)).toArray) lv hg qg zJ rfl hX
  (by rw [gC nG,zJ]; omega) key
 exact ⟨g,_,rfl,HA,k1,k2⟩
theorem Ym {t : TypeId} {x y : Operand} {b off k : Nat} {cs : List AV} {v : AV} (fu : o.op = .store t x y) (hh : cG X φ w H) (hb : aN H b = some cs) (hk : mz P t k = true)
  (rx : bT (Rd X φ w) φ (.ptr b off) (a.eval x)) (ry : bT (Rd X φ w) φ v (a.eval y)) (hl : v.cells.length = k) (nG : off + k <= cs.length) (hs : bz v.cells = true) :
  Ok P X φ w o a .undef (H.set b (some (jv cs off v.cells))) := by
 obtain ⟨dP,h1⟩ := ry.cs hs;obtain ⟨g,w',hx,HA,k1,k2⟩ := Di (P := P) hh hb rx dP h1 (by omega);refine Ok.skip ?_ k1 k2;unfold mz at hk;split at hk
 ·rename_i i hi;simp at hk;have qg : (a.eval y).cells.size = i.size := by have := dP.1; simp at this; omega
  simp [execOp,fu,hx,Instr.storeAt,Instr.sureAddr,storeVar,iS hi,qg,HA]
 ·cases hk

/-! Composite literals -/
theorem Gu (off : Nat) : ∀ (l : List Value) (n : Nat) (arr : Array Value),
  ((l.zipIdx n).foldl (fun cs (p : Value × Nat) => cs.setIfInBounds (off + p.2) p.1) arr).size = arr.size /\
  (off + n + l.length <= arr.size -> ((l.zipIdx n).foldl (fun cs (p : Value × Nat) => cs.setIfInBounds (off + p.2) p.1) arr).toList = arr.toList.take (off + n) ++ l ++ arr.toList.drop (off + n + l.length))
 | [],n,arr => by simp
 | v :: r,n,arr => by
   simp only [List.zipIdx_cons,List.foldl_cons];obtain ⟨h1,h2⟩ := Gu off r (n + 1) (arr.setIfInBounds (off + n) v);refine ⟨by rw [h1]; simp,fun nG => ?_⟩;simp only [cj] at nG;rw [h2 (by simp; omega)];apply dT;intro i;simp only [Array.toList_setIfInBounds,cj];by_cases h0 : i < off + n
   ·rw [az (by simp; omega),az (by simp; omega),az (by simp; omega),az (by simp; omega),
     aS (by omega),aS h0,dq (by omega)]
   ·by_cases h3 : i = off + n
    ·subst h3
     rw [az (by simp; omega),az (by simp; omega),az (by simp; omega),aR (by simp; omega),
      aS (by omega),List.getElem?_set_self (by simp; omega)]
     have e1 : (arr.toList.take (off + n)).length = off + n := by simp; omega
     rw [e1]; simp
    ·by_cases h4 : i < off + n + (r.length + 1)
     ·rw [az (by simp; omega),aR (by simp; omega),az (by simp; omega),aR (by simp; omega)];have e1 : (arr.toList.take (off + n)).length = off + n := by simp; omega
      have e2 : ((arr.toList.set (off + n) v).take (off + (n + 1))).length = off + n + 1 := by simp; omega
      rw [e1,e2,show i - (off + n) = (i - (off + n + 1)) + 1 by omega,l9]
     ·rw [aR (by simp; omega),aR (by simp; omega),aU,aU,dq (by simp; omega)];congr 1;simp only [bN,bC,List.length_set,pk,cj];omega
theorem Wj (v : Value) (off : Nat) (arr : Array Value) (h : off + v.cells.size <= arr.size) :
  (v.cells.zipIdx.foldl (fun cs (p : Value × Nat) => cs.setIfInBounds (off + p.2) p.1) arr).toList = arr.toList.take off ++ v.cells.toList ++ arr.toList.drop (off + v.cells.toList.length) := by
 have h2 := (Gu off v.cells.toList 0 arr).2 (by simpa using h);rw [<- Array.foldl_toList,Array.toList_zipIdx];simpa using h2
theorem qR (he : nQ X φ w env a.tmps) (hg : dZ c X φ w) {place : Nat -> Option (Nat × Nat)} : ∀ {ps : List (Nat × Operand)} {qs : List (Nat × Nat × E)} {zs cs : List AV} {arr : Array Value},
  qm place ps qs = true -> Cs X φ w zs arr.toList -> nK c env zs qs = some cs -> ∃ arr',Instr.fill place arr (ps.map fun p => (p.1,a.eval p.2)) = some arr' /\ Cs X φ w cs arr'.toList
 | [],[],zs,cs,arr,_,hz,hf => by simp [nK] at hf; subst hf; exact ⟨arr,rfl,hz⟩
 | [],_ :: _,_,_,_,h,_,_ => by simp [qm] at h
 | _ :: _,[],_,_,_,h,_,_ => by simp [qm] at h
 | (i,x) :: r,(off,sz,y) :: s,zs,cs,arr,h,hz,hf => by
   simp only [qm,ae,decide_eq_true_eq] at h;obtain ⟨⟨hp,hx⟩,Jb⟩ := h;simp only [nK] at hf;split at hf
   ·rename_i hc;obtain ⟨h1,h2,h3⟩ := hc;obtain ⟨dP,_⟩ := (bX he hg hx).cs h3;have qg : (a.eval x).cells.size = sz := by have := dP.1; simp at this; omega
    have yy : zs.length = arr.size := by simpa using hz.1
    have aiC := Wj (a.eval x) off arr (by omega)
    have NT : Cs X φ w (jv zs off (ev c env y).cells) ((a.eval x).cells.zipIdx.foldl (fun cs (p : Value × Nat) => cs.setIfInBounds (off + p.2) p.1) arr).toList := by
     rw [aiC]; exact hz.jv dP off
    obtain ⟨arr',e1,e2⟩ := qR he hg Jb NT hf;refine ⟨arr',?_,e2⟩;simp only [jE,Instr.fill,hp];rw [if_neg (by simp [qg]; omega)];exact e1
   ·cases hf

theorem run_places (fs : List Field) (h : ∀ f ∈ fs,(P.info? f.type).isSome = true) :
  (fs.mapM (m := Sem) fun f => do pure (f.offset,<- sizeOf f.type)).run P w = .ok (fs.map fun f => (f.offset,((P.info? f.type).map (·.size)).getD 0)) w := by
 induction fs with
 | nil => rfl
 | cons f r ih =>
   obtain ⟨i,hi⟩ := aQ.1 (h f (by simp));have ih' := ih fun g hg => h g (by simp [hg]);simp only [List.mapM_cons,Sem.run_bind,iS hi,Result.andThen_ok,Sem.run_pure,ih',jE,hi,Option.map_some,Option.getD_some]
theorem Yv {t : TypeId} {ps : Array (Nat × Operand)} {qs : List (Nat × Nat × E)} {zs cs : List AV} (fu : o.op = .build t ps) (hh : cG X φ w H) (he : nQ X φ w env a.tmps) (hg : dZ c X φ w)
  (hz : nX P t zs = true) (hu : (match P.underlying t with
  | some (.struct fs) => (fs.toList.all fun f => (P.info? f.type).isSome) && qm (qG P fs) ps.toList qs
  | some (.array _ e) => match P.info? e with
    | some i => qm (fun j => some (j * i.size,i.size)) ps.toList qs
    | none => false
  | _ => false) = true) (hf : nK c env zs qs = some cs) : Ok P X φ w o a (.agg cs) H := by
 obtain ⟨i,z,hi,hz,dP,_⟩ := rn (X := X) (φ := φ) (w := w) hz;split at hu
 ·rename_i fs hut;simp only [ae,List.all_eq_true] at hu;obtain ⟨arr',e1,e2⟩ := qR he hg hu.2 dP hf;refine Ok.quiet (v' := .agg arr') ?_ (.agg _ _ _ (by simpa using e2.1) fun i c v hc hv => e2.2 i c v hc (by simpa using hv)) hh;have oX := run_places (P := P) (w := w) fs.toList hu.1
  have hpl2 : (fs.mapM (m := Sem) fun f => do pure (f.offset,<- sizeOf f.type)).run P w = .ok (fs.toList.map fun f => (f.offset,((P.info? f.type).map (·.size)).getD 0)).toArray w := by
   rw [<- wM (xs := fs),List.mapM_toArray];simp only [Sem.run_map,oX,Result.andThen_ok,wM]
  have agM : (fun j => ((fs.toList.map fun f => (f.offset,((P.info? f.type).map (·.size)).getD 0)).toArray)[j]?) = qG P fs := by
   funext j;simp only [vR,cq,jL,qG];cases hfj : fs[j]? with
   | none => rfl
   | some f =>
     obtain ⟨i,hi⟩ := aQ.1 (hu.1 f (Pb.2 (Array.mem_of_getElem? hfj)));simp [hi]
  simp only [execOp,fu,Instr.build,Sem.run_bind,rF hi hz,Result.andThen_ok,run_underlying hut,hpl2,agM];have : (Cp (fun x => (x.1,a.eval x.2)) ps).toList = ps.toList.map fun p => (p.1,a.eval p.2) := by simp
  simp only [this,e1,Sem.run_pure,Result.andThen_ok]
 ·rename_i n e hut;split at hu
  ·rename_i ie hie;obtain ⟨arr',e1,e2⟩ := qR he hg hu dP hf;refine Ok.quiet (v' := .agg arr') ?_ (.agg _ _ _ (by simpa using e2.1) fun i c v hc hv => e2.2 i c v hc (by simpa using hv)) hh;have : (Cp (fun x => (x.1,a.eval x.2)) ps).toList = ps.toList.map fun p => (p.1,a.eval p.2) := by simp
   simp only [execOp,fu,Instr.build,Sem.run_bind,rF hi hz,Result.andThen_ok,run_underlying hut,iS hie,this,e1,Sem.run_pure]
  ·cases hu
 ·cases hu

theorem Ro (zs : List AV) : ∀ (n i : Nat),i < n * zs.length -> (rep zs n)[i]? = zs[i % zs.length]?
 | 0,i,h => by simp at h
 | n + 1,i,h => by
   rw [rep];by_cases hi : i < zs.length
   ·rw [az hi,Nat.mod_eq_of_lt hi]
   ·rw [aR (by omega),Ro zs n _ (by rw [cF] at h; omega),<- Nat.mod_eq_sub_mod (by omega)]
theorem kP (zs : List AV) : ∀ n,(rep zs n).length = n * zs.length
 | 0 => by simp [rep]
 | n + 1 => by rw [rep,bN,kP zs n,cF]; omega
theorem XF {zs : List AV} (h : bz zs = true) : ∀ n,bz (rep zs n) = true := by
 have app : ∀ {a b : List AV},bz a = true -> bz b = true -> bz (a ++ b) = true := by
  intro a
  induction a with
  | nil => intro b _ hb; exact hb
  | cons x r ih => intro b ha hb; simp only [bz,ae,List.cons_append] at *; exact ⟨ha.1,ih ha.2 hb⟩
 intro n
 induction n with
 | zero => rfl
 | succ n ih => exact app h ih
theorem Py {zs : List AV} {z : Array Value} (h : Cs X φ w zs z.toList) {n m : Nat} (hm : n * z.size <= m) {arr : Array Value} (hz : arr.size = m) (ha : ∀ i,i < m -> arr[i]? = some (z[i % z.size]!)) :
  ∀ (i : Nat) (c : AV),(rep zs n)[i]? = some c -> ∃ u,arr[i]? = some u /\ bT (Rd X φ w) φ c u := by
 intro i c hc;have yy : zs.length = z.size := by simpa using h.1
 have hi : i < n * zs.length := by have := aA hc; rwa [kP] at this
 rw [Ro zs n i hi] at hc;rw [yy] at hc hi;refine ⟨_,ha i (by omega),?_⟩;obtain ⟨u,hu,r⟩ := h.get hc;simp at hu;rw [getElem!_def,hu];exact r
theorem VI {t : TypeId} {n k : Nat} {ps : Array (Nat × Operand)} {qs : List (Nat × Nat × E)} {zs cs : List AV} (fu : o.op = .buildSlice t n ps) (hh : cG X φ w H) (he : nQ X φ w env a.tmps) (hg : dZ c X φ w)
  (hk : jb P t k = true) (hz : iD P t zs = true) (hn : n * k <= 16777216) (hq : qm (fun j => some (j * k,k)) ps.toList qs = true) (hf : nK c env (rep zs n) qs = some cs) :
  Ok P X φ w o a (.sl k H.length 0 n) (H ++ [some cs]) := by
 obtain ⟨e,i,z,hu,hi,wy,hk0,hby,NS,OU⟩ := jg hk;simp only [iD,hu] at hz;obtain ⟨i',z',xe,Hy,dP,_⟩ := rn (X := X) (φ := φ) (w := w) hz;rw [hi] at xe;simp at xe;subst xe;rw [NS] at Hy;simp at Hy;subst Hy;have yy : zs.length = k := by have := dP.1; simp at this; omega
 have CE : Cs X φ w (rep zs n) ((wN (n * k)).map (z.cells[· % z.cells.size]!)).toList := by
  refine ⟨by rw [kP,yy]; simp,fun j c v hc hv => ?_⟩;obtain ⟨u,h1,h2⟩ := Py dP (n := n) (m := n * k) (by rw [OU]; omega) (arr := (wN (n * k)).map (z.cells[· % z.cells.size]!)) (by simp) (fun i hi => by simp [hi]) j c hc;rw [jL,h1] at hv;simp at hv;subst hv;exact h2
 obtain ⟨arr',e1,e2⟩ := qR he hg hq CE hf
 have qg : arr'.size = n * k := by
  have fl : ∀ {ps : List (Nat × Nat × E)} {zs cs : List AV},nK c env zs ps = some cs -> cs.length = zs.length := by
   intro ps
   induction ps with
   | nil => intro zs cs h; simp [nK] at h; rw [h]
   | cons p r ih =>
     intro zs cs h;obtain ⟨o,s,y⟩ := p;simp only [nK] at h;split at h
     ·rename_i hc; rw [ih h,gC (by omega)]
     ·cases h
  have h1 := fl hf;have h2 := e2.1;simp only [pk] at h2;rw [<- h2,h1,kP,yy]
 obtain ⟨h1,h2⟩ := sI hh (w1 := w) (arr := arr') (e := e) rfl rfl rfl rfl (by rw [e2.1]; simp) (e2.at (by simp));refine Ok.value ?_ (KX hh.len (aT n) (by omega)) h1 h2;have ui : (Cp (fun x => (x.1,a.eval x.2)) ps).toList = ps.toList.map fun p => (p.1,a.eval p.2) := by simp
 have OV : ¬ (n * k > 2 ^ 24) := by have : (2:Nat) ^ 24 = 16777216 := by decide
                                    omega
 have hzero : (if n * i.size = 0 then (pure #[] : Sem (Array Value)) else do pure (<- zeroValue e).cells).run P w = .ok (if n * k = 0 then #[] else z.cells) w := by
  rw [wy];split <;> simp [rF hi NS]
 have agO : (wN (n * k)).map ((if n * k = 0 then #[] else z.cells)[· % (if n * k = 0 then #[] else z.cells).size]!) = (wN (n * k)).map (z.cells[· % z.cells.size]!) := by
  by_cases h0 : n * k = 0
  ·simp [h0]
  ·simp [h0]
 simp only [execOp,fu,Instr.buildSlice,Sem.run_bind,run_underlying hu,Result.andThen_ok,iS hi,wy,Sem.run_ite,OV,if_false];rw [wy] at hzero;simp only [Sem.run_ite,Sem.run_bind,Sem.run_pure,rF hi NS,Result.andThen_ok] at hzero ⊢;have e1' := e1;rw [<- agO,<- ui] at e1';split
 ·rename_i h0;simp only [h0,if_true] at e1' ⊢;simp only [Result.andThen_ok,Array.range_zero',Array.map_empty] at e1' ⊢;rw [show (Instr.fill (fun i => some (i * k,k)) #[] (Cp (fun x => (x.1,a.eval x.2)) ps).toList) = some arr' from e1'];simp [newRow]
 ·rename_i h0;simp only [h0,if_false,Result.andThen_ok] at e1' ⊢;rw [show (Instr.fill (fun i => some (i * k,k)) ((wN (n * k)).map (z.cells[· % z.cells.size]!)) (Cp (fun x => (x.1,a.eval x.2)) ps).toList) = some arr' from e1'];simp [newRow]
end
end Go.Am

/- What one operation of the dump does: numbers, tests, slices, append. -/
namespace Go.Am
section
variable {P : Program} {c : eE} {X : Nat -> Prop} {φ : dy} {w : World} {env : Env} {H : Heap} {a : Act} {o : Oper}

theorem abg {x y z : Operand} {t : Bool} {u v : AV} (fu : o.op = .pick x y z) (hh : cG X φ w H) (r : bT (Rd X φ w) φ (.bool t) (a.eval x)) (ru : bT (Rd X φ w) φ u (a.eval y)) (rv : bT (Rd X φ w) φ v (a.eval z)) :
  Ok P X φ w o a (if t then u else v) H := by
 have hx := ny r;cases t
 ·exact Ok.quiet (v' := a.eval z) (by simp [execOp,fu,hx,asBool]) (by simpa using rv) hh
 ·exact Ok.quiet (v' := a.eval y) (by simp [execOp,fu,hx,asBool]) (by simpa using ru) hh
theorem agk {op : BinOp} {t t' : TypeId} {x y : Operand} {u v r : AV} (fu : o.op = .binOp op t x y t') (hh : cG X φ w H) (ru : bT (Rd X φ w) φ u (a.eval x)) (rv : bT (Rd X φ w) φ v (a.eval y)) (hr : jz op u v = some r) :
  Ok P X φ w o a r H := by
 have uh := hr;unfold jz at uh;split at uh
 ·rename_i k n k' n';have hx := iz ru;have hy := iz rv;obtain ⟨v',h1,h2⟩ := aaM (P := P) (w := w) (t := t) hr;exact Ok.quiet (v' := v') (by simp [execOp,fu,hx,hy,eqGuard_at_int,h1]) (h2 _ _) hh
 ·cases uh

theorem Pw (d : Nat) {t e : TypeId} (h : P.underlying t = some (.slice e)) (x : Option Addr) (n m : Nat) : (Op.equalIn (d + 1) t (.slice x n m) (.slice none 0 0)).run P w = .ok x.isNone w := by
 cases x <;> simp [Op.equalIn,run_underlying h]
theorem Mo (d : Nat) {t e : TypeId} (h : P.underlying t = some (.pointer e)) (x : Option Addr) : (Op.equalIn (d + 1) t (.pointer x) (.pointer none)).run P w = .ok x.isNone w := by
 cases x <;> simp [Op.equalIn,run_underlying h]
theorem Px (d : Nat) {t : TypeId} {ps rs : Array TypeId} {vr : Bool} (h : P.underlying t = some (.func ps rs vr)) (f : Fn) (x y : Array Value) : (Op.equalIn (d + 1) t (.func f x y) .nilFunc).run P w = .ok false w := by
 simp [Op.equalIn,run_underlying h]
theorem Mp (d : Nat) {t : TypeId} {ps rs : Array TypeId} {vr : Bool} (h : P.underlying t = some (.func ps rs vr)) : (Op.equalIn (d + 1) t .nilFunc .nilFunc).run P w = .ok true w := by
 simp [Op.equalIn,run_underlying h]
theorem aaL {op : BinOp} {ng : Bool} {t : TypeId} {x y : Operand} {u v : Value} {e : Bool} (ho : eqOp op ng = true) (hg : (eqGuard op t x y u v).run P w = .ok () w) (hb : ∀ op',binOp .eql t u v = (do pure (.bool (<- Op.equal t u v))) /\ (op' = BinOp.neq -> binOp .neq t u v = (do pure (.bool (!(<- Op.equal t u v))))))
  (h : (Op.equalIn 10000 t u v).run P w = .ok e w) : (do eqGuard op t x y u v; binOp op t u v).run P w = .ok (.bool (if ng then !e else e)) w := by
 have h' : (Op.equal t u v).run P w = .ok e w := by unfold Op.equal Op.maxDepth; exact h
 cases op <;> simp [eqOp] at ho
 ·subst ho;simp only [Sem.run_bind,hg,Result.andThen_ok,(hb .eql).1,h',Sem.run_pure];simp
 ·subst ho;simp only [Sem.run_bind,hg,Result.andThen_ok,(hb .neq).2 rfl,h',Sem.run_pure];simp
theorem ok_eq {op : BinOp} {ng : Bool} {et : Et} {t t' : TypeId} {x y : Operand} {u v : AV} {e : Bool} (fu : o.op = .binOp op t x y t') (hh : cG X φ w H) (ho : eqOp op ng = true) (hc : GJ P t et = true) (ru : bT (Rd X φ w) φ u (a.eval x)) (rv : bT (Rd X φ w) φ v (a.eval y)) (hr : Wk et u v = some e) :
  Ok P X φ w o a (.bool (if ng then !e else e)) H := by
 have fin : ∀ {p q : Value},a.eval x = p -> a.eval y = q -> (eqGuard op t x y p q).run P w = .ok () w ->
   (∀ op',binOp .eql t p q = (do pure (.bool (<- Op.equal t p q))) /\ (op' = BinOp.neq -> binOp .neq t p q = (do pure (.bool (!(<- Op.equal t p q)))))) -> (Op.equalIn 10000 t p q).run P w = .ok e w ->
   Ok P X φ w o a (.bool (if ng then !e else e)) H := by
  intro p q hp hq hg hb h;have := aaL (x := x) (y := y) ho hg hb h;refine Ok.quiet ?_ (.bool _ _) hh;simp only [execOp,fu,hp,hq,Sem.run_bind,Result.andThen_ok,Sem.run_pure] at this ⊢;rw [this];rfl
 unfold Wk at hr;split at hr
 ·rename_i b b';simp at hr;subst hr;have hx := ny ru;have hy := ny rv;simp only [GJ] at hc;split at hc
  ·rename_i hu;refine fin hx hy (by rw [eqGuard_at_bool]; rfl) (fun _ => ⟨by simp [binOp],fun _ => by simp [binOp]⟩) ?_;exact run_equalIn_bool w 9999 t b b' hu
  ·cases hc
 ·rename_i l xs ys;generalize hx : a.eval x = p at ru;generalize hy : a.eval y = q at rv;cases ru with
  | agg _ _ vx CB hrx =>
    cases rv with
    | agg _ _ vy CA hry =>
      simp only [GJ] at hc;split at hc
      ·rename_i fs hu;simp only [ae,bH] at hc;obtain ⟨⟨Ut,Gg⟩,hc3⟩ := hc;have hfo : P.fieldsOf t = fs := by simp [Program.fieldsOf,hu]
       refine fin hx hy (run_eqGuard_agg w op t x y vx vy Gg) (fun _ => ⟨by simp [binOp],fun _ => by simp [binOp]⟩) ?_;rw [show (10000 : Nat) = 9999 + 1 from rfl,run_equalIn_struct w 9999 t vx vy (by rw [hu,hfo]) Ut,hfo];exact yH 9998 fs.toList l 0 xs ys vx vy e hc3 (by simpa using hr) CB CA hrx hry
      ·cases hc
 ·generalize hy : a.eval y = q at rv;cases rv;simp only [GJ] at hc;split at hc
  ·rename_i el hu
   have sl : ∀ {ad : Option Addr} {n m : Nat},a.eval x = .slice ad n m -> ad.isNone = e -> Ok P X φ w o a (.bool (if ng then !e else e)) H := by
    intro ad n m hx he;subst he;exact fin hx hy (by rw [eqGuard_at_slice]; rfl) (fun _ => ⟨by simp [binOp],fun _ => by simp [binOp]⟩) (Pw 9999 hu ad n m)
   generalize hx : a.eval x = p at ru;cases ru <;> simp [isNil] at hr
   case dz => exact sl hx (by simpa using hr)
   case sl => exact sl hx (by simpa using hr)
   case mI xs _ _ _ _ _ _ _ _ _ =>
    cases xs <;> simp [isNil] at hr
    exact sl hx (by simpa using hr)
  ·cases hc
 ·generalize hy : a.eval y = q at rv;cases rv;simp only [GJ] at hc;split at hc
  ·rename_i el hu
   have pt : ∀ {ad : Option Addr},a.eval x = .pointer ad -> ad.isNone = e -> Ok P X φ w o a (.bool (if ng then !e else e)) H := by
    intro ad hx he;subst he;exact fin hx hy (by rw [eqGuard_at_pointer]; rfl) (fun _ => ⟨by cases ad <;> simp [binOp],fun _ => by cases ad <;> simp [binOp]⟩) (Mo 9999 hu ad)
   generalize hx : a.eval x = p at ru;cases ru <;> simp [isNil] at hr
   case fy => exact pt hx (by simpa using hr)
   case ptr => exact pt hx (by simpa using hr)
   case dw => exact pt hx (by simpa using hr)
  ·cases hc
 ·generalize hy : a.eval y = q at rv;cases rv;simp only [GJ] at hc;split at hc
  ·rename_i ps rs vr hu;generalize hx : a.eval x = p at ru;cases ru <;> simp [isNil] at hr
   case fD => subst hr; exact fin hx hy (by rw [eqGuard_at_nilFunc]; rfl) (fun _ => ⟨by simp [binOp],fun _ => by simp [binOp]⟩) (Mp 9999 hu)
   case func => subst hr; exact fin hx hy (by rw [eqGuard_at_func]; rfl) (fun _ => ⟨by simp [binOp],fun _ => by simp [binOp]⟩) (Px 9999 hu _ _ _)
  ·cases hc
 ·cases hr
theorem ain {op : UnOp} {t : TypeId} {x : Operand} {u r : AV} (fu : o.op = .unOp op t x) (hh : cG X φ w H) (ru : bT (Rd X φ w) φ u (a.eval x)) (hr : Pg op u = some r) : Ok P X φ w o a r H := by
 unfold Pg at hr;split at hr
 ·have hx := iz ru;simp at hr; subst hr;exact Ok.quiet (v' := .int _ _) (by simp [execOp,fu,hx,Op.unary,Op.intArith]) (.int _ _ _) hh
 ·have hx := iz ru;simp at hr; subst hr;exact Ok.quiet (by simp [execOp,fu,hx,Op.unary,intBits_xor]) (.int _ _ _) hh
 ·have hx := ny ru;simp at hr; subst hr;exact Ok.quiet (by simp [execOp,fu,hx,Op.unary]) (.bool _ _) hh
 ·cases hr
theorem agh {s d : TypeId} {x : Operand} {k k' : IntKind} {n : Int} (fu : o.op = .convert s d x) (hh : cG X φ w H) (hs : (P.underlying s).isSome = true) (hd : P.underlying d = some (.int k)) (ru : bT (Rd X φ w) φ (.int k' n) (a.eval x)) :
  Ok P X φ w o a (.int k (k.wrap n)) H := by
 have hx := iz ru;obtain ⟨d',hd'⟩ := aQ.mp hs;exact Ok.quiet (by simp [execOp,fu,hx,convert,run_underlying hd',run_underlying hd,Conv.intToInt]) (.int _ _ _) hh
theorem af4 {fn : Fn} {as bs : Array Operand} {xs ys : List E} (fu : o.op = .makeFunc fn as bs) (hh : cG X φ w H) (he : nQ X φ w env a.tmps) (hg : dZ c X φ w) (ha : jh as.toList xs = true) (hb : jh bs.toList ys = true) :
  Ok P X φ w o a (.func fn (Da c env xs) (Da c env ys)) H := by
 obtain ⟨l1,h1⟩ := mM he hg ha;obtain ⟨l2,h2⟩ := mM he hg hb;refine Ok.quiet (v' := .func fn (as.map a.eval) (bs.map a.eval)) (by simp [execOp,fu,Instr.makeFunc]) (.func _ _ _ _ _ _ (by simp [l1]) (by simp [l2]) (fun i c v hc hv => h1 i c v hc ?_) (fun i c v hc hv => h2 i c v hc ?_)) hh
 ·simpa using hv
 ·simpa using hv
theorem af3 {t : TypeId} {k : Nat} {zs : List AV} {x y : Operand} {k1 k2 : IntKind} {l cp : Int} (fu : o.op = .makeSlice t x y) (hh : cG X φ w H) (hk : jb P t k = true) (hz : iD P t zs = true)
  (rx : bT (Rd X φ w) φ (.int k1 l) (a.eval x)) (ry : bT (Rd X φ w) φ (.int k2 cp) (a.eval y)) (h0 : 0 <= l) (h1 : l <= cp) (h2 : cp <= (lj : Int)) :
  Ok P X φ w o a (.sl k H.length 0 l.toNat) (H ++ [some (rep zs l.toNat)]) := by
 obtain ⟨e,i,z,hu,hi,wy,hk0,hby,NS,OU⟩ := jg hk;simp only [iD,hu] at hz;obtain ⟨i',z',xe,Hy,dP,_⟩ := rn (X := X) (φ := φ) (w := w) hz;rw [hi] at xe;simp at xe;subst xe;rw [NS] at Hy;simp at Hy;subst Hy;have yy : zs.length = k := by have := dP.1; simp at this; omega
 have hx := iz rx;have hy := iz ry;have hL : (lj : Int) = 4294967296 := rfl
 have hb : (i.bytes : Int) * cp <= 281474976710656 := by
  have h3 : (i.bytes : Int) * cp <= 1024 * 4294967296 := Int.mul_le_mul (by omega) (by omega) (by omega) (by omega);omega
 have l8 := run_make (P := P) w t e i z hu hi NS k1 k2 l cp h0 h1 hb (by omega);have hlc : l.toNat <= cp.toNat := by omega
 have hlk : l.toNat * k <= cp.toNat * k := bM _ hlc;have hms : (madeCells z.cells (cp.toNat * i.size)).size = cp.toNat * k := by rw [size_madeCells,wy]
 obtain ⟨q1,q2⟩ := sI hh (w1 := w) (arr := madeCells z.cells (cp.toNat * i.size)) (e := e) (cs := rep zs l.toNat) rfl rfl rfl rfl (by rw [kP,hms,yy]; exact hlk)
  (Py dP (m := cp.toNat * k) (by rw [OU]; exact hlk) hms (fun j hj => by rw [wy]; simp [madeCells,hj]))
 refine Ok.value (v' := .slice (some ⟨w.heap.size,0,none⟩) l.toNat cp.toNat) ?_ (KX hh.len hlc (by rw [hms]; exact aT _)) q1 q2;simp only [execOp,fu,hx,hy,Sem.run_bind,l8,Result.andThen_ok,Sem.run_pure]

theorem aam {x : AV} {hi n : Nat} (h : bnd x hi = some n) : ∃ k i,x = .int k i /\ 0 <= i /\ i <= (hi : Int) /\ n = i.toNat := by
 unfold bnd at h;split at h
 ·rename_i k i;split at h
  ·rename_i hc; simp at h; exact ⟨k,i,rfl,hc.1,hc.2,h.symm⟩
  ·cases h
 ·cases h
theorem vm {x : AV} {len j : Nat} (h : idx x len = some j) : ∃ k i,x = .int k i /\ 0 <= i /\ i < (len : Int) /\ j = i.toNat /\ j < len := by
 unfold idx at h;split at h
 ·rename_i k i;split at h
  ·rename_i hc; simp at h; exact ⟨k,i,rfl,hc.1,hc.2,h.symm,by omega⟩
  ·cases h
 ·cases h
theorem run_sliceBound {k : IntKind} {i : Int} {y : Nat} {cd : BoundsCode} (h0 : 0 <= i) (h1 : i <= (y : Int)) : (Instr.sliceBound (.int k i) y cd).run P w = .ok i.toNat w := by
 simp [Instr.sliceBound,asIntOf,h0,h1]
theorem uA (he : nQ X φ w env a.tmps) (hg : dZ c X φ w) {x : Operand} {y : E} {n m cap : Nat} {cd : BoundsCode} (hx : df x y = true) (hn : n <= cap) (h : bnd (ev c env y) n = some m) :
  (Instr.sliceBound (a.eval x) cap cd).run P w = .ok m w /\ m <= n := by
 obtain ⟨k,i,e1,e2,e3,e4⟩ := aam h;have r := bX (a := a) he hg hx;rw [e1] at r;rw [iz r,e4];exact ⟨run_sliceBound e2 (by omega),by omega⟩
theorem Dx (he : nQ X φ w env a.tmps) (hg : dZ c X φ w) {lo hi : Option Operand} {lo' xe : Option E} {n cap h l : Nat} (hlo : qp lo lo' = true) (Wb : qp hi xe = true) (hn : n <= cap)
  (hh : zY c env n n xe = some h) (hl : zY c env 0 h lo' = some l) : (Instr.sliceBounds true n cap (lo.map a.eval) (hi.map a.eval) none).run P w = .ok (l,h,cap) w /\ l <= h /\ h <= n := by
 cases lo <;> cases lo' <;> simp only [qp] at hlo <;> try (cases hlo; done)
 all_goals
  cases hi <;> cases xe <;> simp only [qp] at Wb <;> try (cases Wb; done)
 all_goals simp only [zY] at hh hl
 ·simp at hh hl;subst hh; subst hl;exact ⟨by simp [Instr.sliceBounds],by omega,aT _⟩
 ·obtain ⟨h1,h2⟩ := uA (P := P) (cd := .sliceAcap) he hg Wb hn hh;simp at hl;subst hl;exact ⟨by simp [Instr.sliceBounds,h1],by omega,h2⟩
 ·simp at hh;subst hh;obtain ⟨h1,h2⟩ := uA (P := P) (cd := .sliceB) he hg hlo (aT _) hl;exact ⟨by simp [Instr.sliceBounds,h1],h2,aT _⟩
 ·obtain ⟨h1,h2⟩ := uA (P := P) (cd := .sliceAcap) he hg Wb hn hh;obtain ⟨h3,h4⟩ := uA (P := P) (cd := .sliceB) he hg hlo (aT _) hl;exact ⟨by simp [Instr.sliceBounds,h1,h3],h4,h2⟩
theorem aaJ {t e : TypeId} {i : TypeInfo} (hu : P.underlying t = some (.slice e)) (hi : P.info? e = some i) {ad : Option Addr} {n cap l h : Nat} {lo xe : Option Value} (hb : (Instr.sliceBounds true n cap lo xe none).run P w = .ok (l,h,cap) w) :
  (Instr.sliceAt t (.slice ad n cap) lo xe none).run P w = .ok (.slice (if cap = l then ad else ad.map (·.add (l * i.size))) (h - l) (cap - l)) w := by
 simp only [Instr.sliceAt,Instr.slice,Sem.run_bind,run_underlying hu,Result.andThen_ok,hb,iS hi,Sem.run_pure]
theorem af1 {t : TypeId} {k : Nat} {x : Operand} {y : E} {lo hi : Option Operand} {lo' xe : Option E} {v : AV} {H' : Heap} {fl : Fp} {call : Nat -> List AV -> Heap -> Option (AV × Heap)} (fu : o.op = .slice t x lo hi none) (hh : cG X φ w H) (he : nQ X φ w env a.tmps) (hg : dZ c X φ w)
  (hk : jb P t k = true) (hx : df x y = true) (hlo : qp lo lo' = true) (Wb : qp hi xe = true) (hs : fW c call env H (.yG k y lo' xe) = some (v,H',fl)) : Ok P X φ w o a v H' := by
 obtain ⟨e,i,z,hu,Ql,wy,hk0,hby,NS,OU⟩ := jg hk;have r := bX (a := a) he hg hx;simp only [fW] at hs;split at hs
 case h_2 => cases hs
 rename_i n hn;split at hs
 case h_2 => cases hs
 rename_i h hhv;split at hs
 case h_2 => cases hs
 rename_i l hlv
 have fin : ∀ {ad : Option Addr} {cap : Nat},a.eval x = .slice ad n cap -> n <= cap -> l <= h -> h <= n -> (l <= h -> h <= n -> bT (Rd X φ w) φ v (.slice (if cap = l then ad else ad.map (·.add (l * k))) (h - l) (cap - l))) -> H' = H -> Ok P X φ w o a v H' := by
  intro ad cap OX hnc _ _ hr hH;obtain ⟨h1,h2,h3⟩ := Dx (P := P) he hg hlo Wb hnc hhv hlv;have := aaJ (P := P) hu Ql (ad := ad) h1;rw [wy] at this;subst hH;exact Ok.quiet (by simp only [execOp,fu,OX,CK,Sem.run_bind,this,Result.andThen_ok,Sem.run_pure]) (hr h2 h3) hh
 have le : ∀ cap,n <= cap -> l <= h /\ h <= n := fun cap hc => (Dx (P := P) he hg hlo Wb hc hhv hlv).2;obtain ⟨hlh,hhn⟩ := le n (aT _);generalize hy : ev c env y = yv at hs r hn;cases yv <;> simp only [Y1,ah] at hn <;> try (cases hn; done)
 ·subst hn;simp at hs;obtain ⟨rfl,rfl,rfl⟩ := hs;generalize OX : a.eval x = ax at r;cases r;have hh0 : h = 0 := by omega
  have hl0 : l = 0 := by omega
  subst hh0; subst hl0;exact fin OX (aT _) (aT _) (aT _) (fun _ _ => by simp; exact .dz _) rfl
 ·rename_i k' xs;simp only at hs;split at hs
  case isFalse => cases hs
  rename_i sK;subst sK;simp at hs;obtain ⟨rfl,rfl,rfl⟩ := hs;generalize OX : a.eval x = ax at r;cases r with
  | mI _ _ _ ad n' cap u OV jH hkc hur hr =>
    subst hn;subst OV;refine fin OX jH hlh hhn (fun _ _ => ?_) rfl;have hlen : ((xs.take h).drop l).length = h - l := by simp; omega
    by_cases Qp : cap = l
    ·have h0 : (xs.take h).drop l = [] := gG (by omega);rw [if_pos Qp,h0];refine .mI _ _ _ _ _ _ u (by simp; omega) (by omega) (by simp) (fun i j x c hx => by simp at hx) (fun i j x c hx => by simp at hx)
    ·rw [if_neg Qp]
     have get : ∀ (i : Nat) (x : AV),((xs.take h).drop l)[i]? = some x -> xs[l + i]? = some x := by
      intro i x hx;rw [aU,bF] at hx;split at hx
      ·exact hx
      ·cases hx
     refine .mI _ _ _ _ _ _ (fun i j => u (l + i) j) hlen.symm (by omega) (fun x hx => ?_) (fun i j x c hx hc => ?_) (fun i j x c hx hc => hr (l + i) j x c (get i x hx) hc)
     ·obtain ⟨i,hi⟩ := bG hx;exact hkc x (List.mem_of_getElem? (get i x hi))
     ·have := hur (l + i) j x c (get i x hx) hc;rw [Addr.add_add]
      rwa [show l * k' + (i * k' + j) = (l + i) * k' + j by rw [cF]; omega]
  | j8 =>
    simp at hn;subst hn;have hh0 : h = 0 := by omega
    have hl0 : l = 0 := by omega
    subst hh0; subst hl0;exact fin OX (aT _) (aT _) (aT _) (fun _ _ => by simp; exact .j8 _ _) rfl
 ·rename_i k' b off len;simp only at hs;split at hs
  case isFalse => cases hs
  rename_i sK;subst sK;simp at hs;obtain ⟨rfl,rfl,rfl⟩ := hs;subst hn;generalize OX : a.eval x = ax at r;cases r with
  | sl _ _ _ _ _ ad cap hb hc hp =>
    refine fin OX hc hlh hhn (fun _ _ => ?_) rfl;have e : (if cap = l then (some ad : Option Addr) else Option.map (·.add (l * k')) (some ad)) = some (if cap = l then ad else ad.add (l * k')) := by split <;> simp
    rw [e];refine .sl _ _ _ _ _ _ _ hb (by omega) fun g sz hg => ?_;obtain ⟨h1,h2⟩ := hp g sz hg;have hmul : l * k' + (cap - l) * k' = cap * k' := by rw [<- cF]; congr 1; omega
    refine ⟨fun h0 => ?_,by omega⟩;rw [if_neg (by omega),h1 (by omega),Addr.jd]

theorem L3.drop {cs : List AV} {ad : Addr} (h : L3 X φ w cs ad) (n : Nat) : L3 X φ w (cs.drop n) (ad.add n) := by
 intro j x hx;rw [aU] at hx;rw [Addr.add_add];exact h _ _ hx
theorem Jp {cs : List AV} {v : Value} (h : bT (Rd X φ w) φ (.dw cs) v) (n : Nat) : ∃ ad,v = .pointer (some ad) /\ bT (Rd X φ w) φ (.dw (cs.drop n)) (.pointer (some (ad.add n))) := by
 cases h with
 | dw _ _ ad u hu h =>
   refine ⟨ad,rfl,.dw _ _ _ (fun j => u (n + j)) (fun j c hc => ?_) (fun j c hc => ?_)⟩
   ·rw [aU] at hc;rw [Addr.add_add];exact hu _ _ hc
   ·rw [aU] at hc;exact h _ _ hc
theorem Tk {b off : Nat} {v : Value} (h : bT (Rd X φ w) φ (.ptr b off) v) (n : Nat) : ∃ ad,v = .pointer (some ad) /\ bT (Rd X φ w) φ (.ptr b (off + n)) (.pointer (some (ad.add n))) := by
 cases h with
 | ptr _ _ _ ad hb h =>
   refine ⟨ad,rfl,.ptr _ _ _ _ hb fun g sz hg => ?_⟩;rw [h g sz hg,Addr.jd]

theorem Xw (he : nQ X φ w env a.tmps) (hg : dZ c X φ w) {hi : Option Operand} {xe : Option E} {n h : Nat} (Wb : qp hi xe = true) (hh : zY c env n n xe = some h) : (Instr.sliceBounds false n n none (hi.map a.eval) none).run P w = .ok (0,h,n) w /\ h <= n := by
 cases hi <;> cases xe <;> simp only [qp] at Wb <;> try (cases Wb; done)
 all_goals simp only [zY] at hh
 ·simp at hh;subst hh;exact ⟨by simp [Instr.sliceBounds],aT _⟩
 ·obtain ⟨h1,h2⟩ := uA (P := P) (cd := .sliceAlen) he hg Wb (aT _) hh;exact ⟨by simp [Instr.sliceBounds,h1],h2⟩
theorem agl {t : TypeId} {n : Nat} {x : Operand} {y : E} {hi : Option Operand} {xe : Option E} {v : AV} {H' : Heap} {fl : Fp} {call : Nat -> List AV -> Heap -> Option (AV × Heap)} (fu : o.op = .slice t x none hi none) (hh : cG X φ w H) (he : nQ X φ w env a.tmps) (hg : dZ c X φ w) (Wb : qp hi xe = true) (r : bT (Rd X φ w) φ (ev c env y) (a.eval x))
  (hk : (match P.underlying t with
  | some (.array n' e) => decide (n = n') && mz P e 1
  | _ => false) = true) (hs : fW c call env H (.HK n y xe) = some (v,H',fl)) : Ok P X φ w o a v H' := by
 split at hk
 case h_2 => cases hk
 rename_i n' e hu;simp only [ae,decide_eq_true_eq] at hk;obtain ⟨rfl,qg⟩ := hk;unfold mz at qg;split at qg
 case h_2 => cases qg
 rename_i i Ql;simp only [fW] at hs;split at hs
 case h_2 => cases hs
 rename_i m hm;obtain ⟨bd,C5⟩ := Xw (P := P) he hg Wb hm;split at hs
 case h_3 => cases hs
 case h_2 =>
  rename_i b off hy;split at hs
  case h_2 => cases hs
  rename_i cs hb;split at hs
  case isFalse => cases hs
  rename_i hc;simp at hs;obtain ⟨rfl,rfl,rfl⟩ := hs;rw [hy] at r;generalize OX : a.eval x = ax at r;cases r with
  | ptr _ _ _ ad Xa hp =>
    have e0 : (if n = 0 then ad else ad.add (0 * i.size)) = ad := by
     split
     ·rfl
     ·simp [Addr.add]
    have run : (execOp a.eval o).run P w = .ok (.value (.slice (some ad) m n)) w := by
     simp only [execOp,fu,OX,CK,Instr.sliceAt,Instr.sureAddr,Sem.run_bind,run_underlying hu,Result.andThen_ok,bd,iS Ql,Sem.run_pure,e0,Nat.sub_zero]
    refine Ok.quiet run ?_ hh;obtain ⟨g,sz,arr,e,h1,h2,h3,h4,_⟩ := hh.at hb;refine .sl _ _ _ _ _ _ _ Xa C5 fun g' nx hg => ?_;rw [h1] at hg;simp only [ah,aJ] at hg;obtain ⟨rfl,rfl⟩ := hg;exact ⟨fun _ => hp _ _ h1,by omega⟩
 rename_i cs hy;split at hs
 case isFalse => cases hs
 rename_i hc;obtain ⟨Ut,rfl,Gg⟩ := hc;have hc : m <= cs.length /\ bz (cs.take m) = true := ⟨Ut,Gg⟩;simp at hs;obtain ⟨rfl,rfl,rfl⟩ := hs;rw [hy] at r;generalize OX : a.eval x = ax at r;cases r with
 | dw _ _ ad u Ll hr =>
   have e0 : (if m = 0 then ad else ad.add (0 * i.size)) = ad := by
    split
    ·rfl
    ·simp [Addr.add]
   have run : (execOp a.eval o).run P w = .ok (.value (.slice (some ad) m m)) w := by
    simp only [execOp,fu,OX,CK,Instr.sliceAt,Instr.sureAddr,Sem.run_bind,run_underlying hu,Result.andThen_ok,bd,iS Ql,Sem.run_pure,e0,Nat.sub_zero]
   refine Ok.quiet run ?_ hh
   have get : ∀ {k : Nat} {c : AV},(cs.take m)[k]? = some c -> cs[k]? = some c /\ c.leaf = true := by
    intro k c h;refine ⟨?_,vI hc.2 k c h⟩;rw [bF] at h;split at h
    ·exact h
    ·cases h
   have one : ∀ {c : AV},c.leaf = true -> c.cells = [c] := by
    intro c h;cases c <;> simp [AV.leaf] at h <;> rfl
   refine .mI _ 1 _ ad m m (fun k _ => u k) (by simp; omega) (aT _) (fun c hm => ?_) (fun k j c d h1 h2 => ?_) (fun k j c d h1 h2 => ?_)
   ·obtain ⟨k,hk⟩ := bG hm;rw [one (get hk).2]; rfl
   ·rw [one (get h1).2] at h2;cases j with
    | zero => simp at h2; subst h2; simpa using Ll k c (get h1).1
    | succ j => simp at h2
   ·rw [one (get h1).2] at h2;cases j with
    | zero => simp at h2; subst h2; exact hr k c (get h1).1
    | succ j => simp at h2
theorem agd {s : TypeId} {f off : Nat} {x : Operand} {y : E} {v : AV} {H' : Heap} {fl : Fp} {call : Nat -> List AV -> Heap -> Option (AV × Heap)} (fu : o.op = .fieldAddr s x f) (hh : cG X φ w H) (r : bT (Rd X φ w) φ (ev c env y) (a.eval x))
  (hk : (match P.underlying s with
  | some (.struct fs) => match fs[f]? with
    | some fd => decide (fd.offset = off) && (match P.info? fd.type with
      | some i => decide (i.size ≠ 0)
      | none => false)
    | none => false
  | _ => false) = true) (hs : fW c call env H (.fX off y) = some (v,H',fl)) : Ok P X φ w o a v H' := by
 split at hk
 case h_2 => cases hk
 rename_i fs hu;split at hk
 case h_2 => cases hk
 rename_i fd hf;simp only [ae,decide_eq_true_eq] at hk;obtain ⟨V8,qg⟩ := hk;split at qg
 case h_2 => cases qg
 rename_i i hi;have hsz' : ¬ i.size = 0 := by simpa using qg
 have run : ∀ {ad : Addr},a.eval x = .pointer (some ad) -> (execOp a.eval o).run P w = .ok (.value (.pointer (some (ad.add off)))) w := by
  intro ad hx;simp only [execOp,fu,hx,Instr.fieldAt,Sem.run_bind,run_underlying hu,Result.andThen_ok,hf,Instr.sureAddr,Sem.run_pure,fieldPlace,iS hi,hsz',if_false,V8]
 simp only [fW] at hs;split at hs
 ·rename_i b off' hy;simp at hs;obtain ⟨rfl,rfl,rfl⟩ := hs;rw [hy] at r;obtain ⟨ad,h1,h2⟩ := Tk r off;exact Ok.quiet (run h1) h2 hh
 ·rename_i cs hy;simp at hs;obtain ⟨rfl,rfl,rfl⟩ := hs;rw [hy] at r;obtain ⟨ad,h1,h2⟩ := Jp r off;exact Ok.quiet (run h1) h2 hh
 ·cases hs
theorem agc {s : TypeId} {f off : Nat} {ag : Option Nat} {x : Operand} {y : E} {v : AV} {H' : Heap} {fl : Fp} {call : Nat -> List AV -> Heap -> Option (AV × Heap)} (fu : o.op = .field s x f) (hh : cG X φ w H) (r : bT (Rd X φ w) φ (ev c env y) (a.eval x))
  (hk : (match P.underlying s with
  | some (.struct fs) => match fs[f]? with
    | some fd => decide (fd.offset = off) && decide (nP P fd.type = some ag)
    | none => false
  | _ => false) = true) (hs : fW c call env H (.Wi off ag y) = some (v,H',fl)) : Ok P X φ w o a v H' := by
 split at hk
 case h_2 => cases hk
 rename_i fs hu;split at hk
 case h_2 => cases hk
 rename_i fd hf;simp only [ae,decide_eq_true_eq] at hk;obtain ⟨V8,Gj⟩ := hk;simp only [fW] at hs;split at hs
 case h_2 => cases hs
 rename_i cs hy;split at hs
 case h_2 => cases hs
 rename_i u Ll;simp at hs;obtain ⟨rfl,rfl,rfl⟩ := hs;rw [hy] at r;generalize hx : a.eval x = ax at r;cases r with
 | agg _ _ vs hl hr =>
   obtain ⟨v',h1,h2⟩ := Tr Gj hl hr Ll;refine Ok.quiet ?_ h2 hh;simp only [execOp,fu,hx,Instr.field,Sem.run_bind,run_underlying hu,Result.andThen_ok,hf,asAgg,Sem.run_pure,V8,h1]
theorem Rl {t e : TypeId} {i : TypeInfo} (hu : P.underlying t = some (.slice e)) (hi : P.info? e = some i) {ad : Addr} {n cap : Nat} {k : IntKind} {j : Int} (h0 : 0 <= j) (h1 : j < (n : Int)) :
  (Instr.indexAt t (.slice (some ad) n cap) (.int k j)).run P w = .ok (.pointer (some (ad.add (j.toNat * i.size)))) w := by
 simp [Instr.indexAt,asIntOf,run_underlying hu,h0,h1,iS hi]
theorem aaK {t e : TypeId} {i : TypeInfo} {n : Nat} (hu : P.underlying t = some (.array n e)) (hi : P.info? e = some i) {ad : Addr} {k : IntKind} {j : Int} (h0 : 0 <= j) (h1 : j < (n : Int)) :
  (Instr.indexAt t (.pointer (some ad)) (.int k j)).run P w = .ok (.pointer (some (ad.add (j.toNat * i.size)))) w := by
 simp [Instr.indexAt,asIntOf,Instr.sureAddr,run_underlying hu,h0,h1,iS hi]
theorem aga {t : TypeId} {k : Nat} {x xi : Operand} {y yi : E} {v : AV} {H' : Heap} {fl : Fp} {call : Nat -> List AV -> Heap -> Option (AV × Heap)} (fu : o.op = .indexAddr t x xi) (hh : cG X φ w H) (r : bT (Rd X φ w) φ (ev c env y) (a.eval x))
  (ri : bT (Rd X φ w) φ (ev c env yi) (a.eval xi)) (hk : jb P t k = true) (hs : fW c call env H (.fO k y yi) = some (v,H',fl)) : Ok P X φ w o a v H' := by
 obtain ⟨e,i,z,hu,Ql,wy,hk0,hby,NS,OU⟩ := jg hk;simp only [fW] at hs;split at hs
 ·rename_i k' xs hy;split at hs
  case h_2 => cases hs
  rename_i j hj;obtain ⟨kk,ii,e1,e2,e3,e4,e5⟩ := vm hj;split at hs
  case isFalse => cases hs
  rename_i sK;subst sK;split at hs
  case h_2 => cases hs
  rename_i el hel;simp at hs;obtain ⟨rfl,rfl,rfl⟩ := hs;rw [e1] at ri;have Zl := iz ri;rw [hy] at r;generalize hx : a.eval x = ax at r;cases r with
  | mI _ _ _ ad n cap u hn jH hkc hur hr =>
    have l8 := Rl (P := P) (w := w) hu Ql (ad := ad) (n := n) (cap := cap) (k := kk) e2 (by omega);refine Ok.quiet (v' := .pointer (some (ad.add (ii.toNat * i.size)))) (by simp only [execOp,fu,hx,Zl,Sem.run_bind,l8,Result.andThen_ok,Sem.run_pure]) (.dw _ _ _ (fun m => u j m) (fun m c hc => ?_) (fun m c hc => hr j m el c hel hc)) hh;rw [Addr.add_add,wy,<- e4];exact hur j m el c hel hc
  | j8 => simp at hel
 ·rename_i k' b off len hy;split at hs
  case h_2 => cases hs
  rename_i j hj;obtain ⟨kk,ii,e1,e2,e3,e4,e5⟩ := vm hj;split at hs
  case isFalse => cases hs
  rename_i sK;subst sK;simp at hs;obtain ⟨rfl,rfl,rfl⟩ := hs;rw [e1] at ri;have Zl := iz ri;rw [hy] at r;generalize hx : a.eval x = ax at r;cases r with
  | sl _ _ _ _ _ ad cap hb hc hp =>
    have l8 := Rl (P := P) (w := w) hu Ql (ad := ad) (n := len) (cap := cap) (k := kk) e2 (by omega);refine Ok.quiet (v' := .pointer (some (ad.add (ii.toNat * i.size)))) (by simp only [execOp,fu,hx,Zl,Sem.run_bind,l8,Result.andThen_ok,Sem.run_pure]) (.ptr _ _ _ _ hb fun g sz hg => ?_) hh;rw [(hp g sz hg).1 (by omega),Addr.jd,wy,e4]
 ·cases hs
theorem af9 {t : TypeId} {n k : Nat} {x xi : Operand} {y yi : E} {v : AV} {H' : Heap} {fl : Fp} {call : Nat -> List AV -> Heap -> Option (AV × Heap)} (fu : o.op = .indexAddr t x xi) (hh : cG X φ w H) (r : bT (Rd X φ w) φ (ev c env y) (a.eval x))
  (ri : bT (Rd X φ w) φ (ev c env yi) (a.eval xi)) (hk : (match P.underlying t with
  | some (.array n' e) => decide (n = n') && mz P e k
  | _ => false) = true) (hs : fW c call env H (.Cy n k y yi) = some (v,H',fl)) : Ok P X φ w o a v H' := by
 split at hk
 case h_2 => cases hk
 rename_i n' e hu;simp only [ae,decide_eq_true_eq] at hk;obtain ⟨rfl,qg⟩ := hk;unfold mz at qg;split at qg
 case h_2 => cases qg
 rename_i i hi;have wy : i.size = k := by simpa using qg
 simp only [fW] at hs;split at hs
 case h_2 => cases hs
 rename_i j hj;obtain ⟨kk,ii,e1,e2,e3,e4,e5⟩ := vm hj;rw [e1] at ri;have Zl := iz ri
 have run : ∀ {ad : Addr},a.eval x = .pointer (some ad) -> (execOp a.eval o).run P w = .ok (.value (.pointer (some (ad.add (j * k))))) w := by
  intro ad hx;have l8 := aaK (P := P) (w := w) hu hi (ad := ad) (k := kk) e2 e3;simp only [execOp,fu,hx,Zl,Sem.run_bind,l8,Result.andThen_ok,Sem.run_pure,wy,e4]
 split at hs
 ·rename_i b off hy;simp at hs;obtain ⟨rfl,rfl,rfl⟩ := hs;rw [hy] at r;obtain ⟨ad,h1,h2⟩ := Tk r (j * k);exact Ok.quiet (run h1) h2 hh
 ·rename_i cs hy;simp at hs;obtain ⟨rfl,rfl,rfl⟩ := hs;rw [hy] at r;obtain ⟨ad,h1,h2⟩ := Jp r (j * k);exact Ok.quiet (run h1) h2 hh
 ·cases hs
theorem aip {t : TypeId} {n k : Nat} {ag : Option Nat} {x xi : Operand} {y yi : E} {v : AV} {H' : Heap} {fl : Fp} {call : Nat -> List AV -> Heap -> Option (AV × Heap)} (fu : o.op = .index t x xi) (hh : cG X φ w H) (r : bT (Rd X φ w) φ (ev c env y) (a.eval x))
  (ri : bT (Rd X φ w) φ (ev c env yi) (a.eval xi)) (hk : (match P.underlying t with
  | some (.array n' e) => decide (n = n') && mz P e k && decide (nP P e = some ag)
  | _ => false) = true) (hs : fW c call env H (.ix n k ag y yi) = some (v,H',fl)) : Ok P X φ w o a v H' := by
 split at hk
 case h_2 => cases hk
 rename_i n' e hu;simp only [ae,decide_eq_true_eq] at hk;obtain ⟨⟨rfl,qg⟩,Gj⟩ := hk;unfold mz at qg;split at qg
 case h_2 => cases qg
 rename_i i hi;have wy : i.size = k := by simpa using qg
 simp only [fW] at hs;split at hs
 case h_2 => cases hs
 rename_i j hj;obtain ⟨kk,ii,e1,e2,e3,e4,e5⟩ := vm hj;rw [e1] at ri;have Zl := iz ri;split at hs
 case h_2 => cases hs
 rename_i cs hy;split at hs
 case h_2 => cases hs
 rename_i u Ll;simp at hs;obtain ⟨rfl,rfl,rfl⟩ := hs;rw [hy] at r;generalize hx : a.eval x = ax at r;cases r with
 | agg _ _ vs hl hr =>
   obtain ⟨v',h1,h2⟩ := Tr Gj hl hr Ll;refine Ok.quiet ?_ h2 hh;rw [e4] at h1;simp only [execOp,fu,hx,Zl,Instr.index,asIntOf,Sem.run_bind,Sem.run_pure,run_underlying hu,Result.andThen_ok,e2,e3,and_self,if_true,iS hi,wy,h1]
theorem age {x : Operand} {i : Nat} {vs : List AV} {v : AV} (fu : o.op = .extract x i) (hh : cG X φ w H) (r : bT (Rd X φ w) φ (.dB vs) (a.eval x)) (hv : vs[i]? = some v) : Ok P X φ w o a v H := by
 generalize hx : a.eval x = ax at r;cases r with
 | dB _ _ us hl hr =>
   obtain ⟨u,hu⟩ := cY (l := us) (i := i) (by have := aA hv; omega);exact Ok.quiet (by simp only [execOp,fu,hx,Instr.extract,hu,Sem.run_bind,Sem.run_pure,Result.andThen_ok]) (hr i v u hv hu) hh
theorem Yo {x : Operand} {y : E} {v : AV} {H' : Heap} {fl : Fp} {call : Nat -> List AV -> Heap -> Option (AV × Heap)} (fu : o.op = .nilCheck x) (hh : cG X φ w H) (r : bT (Rd X φ w) φ (ev c env y) (a.eval x))
  (hs : fW c call env H (.lK y) = some (v,H',fl)) : Ok P X φ w o a v H' := by
 simp only [fW] at hs;split at hs
 ·rename_i b off hy;simp at hs;obtain ⟨rfl,rfl,rfl⟩ := hs;rw [hy] at r;generalize hx : a.eval x = ax at r;have r' := r;cases r;exact Ok.quiet (by simp only [execOp,fu,hx,Sem.run_pure]) r' hh
 ·rename_i cs hy;simp at hs;obtain ⟨rfl,rfl,rfl⟩ := hs;rw [hy] at r;generalize hx : a.eval x = ax at r;have r' := r;cases r;exact Ok.quiet (by simp only [execOp,fu,hx,Sem.run_pure]) r' hh
 ·rename_i f as bs hy;simp at hs;obtain ⟨rfl,rfl,rfl⟩ := hs;rw [hy] at r;generalize hx : a.eval x = ax at r;have r' := r;cases r;exact Ok.quiet (by simp only [execOp,fu,hx,Sem.run_pure]) r' hh
 ·cases hs
theorem af6 {ca : Call} {x : Operand} {t : TypeId} {y : E} {v : AV} {H' : Heap} {fl : Fp} {call : Nat -> List AV -> Heap -> Option (AV × Heap)} (fu : o.op = .call ca) (Cb : ca.callee = .builtin .len) (lN : ca.args = #[x]) (LZ : ca.argTypes = #[t]) (hh : cG X φ w H)
  (r : bT (Rd X φ w) φ (ev c env y) (a.eval x)) (hsl : isSlice P t = true) (hs : fW c call env H (.len y) = some (v,H',fl)) : Ok P X φ w o a v H' := by
 unfold isSlice at hsl;split at hsl
 case h_2 => cases hsl
 rename_i e hu
 have run : ∀ {ad : Option Addr} {n cap : Nat},a.eval x = .slice ad n cap -> (execOp a.eval o).run P w = .ok (.value (.int .i64 n)) w := by
  intro ad n cap hx;simp [execOp,fu,resolve,Cb,lN,LZ,invoke,builtin,hx,Builtin.len_,run_underlying hu,goInt]
 simp only [fW] at hs;split at hs
 case h_2 => cases hs
 rename_i n hn;simp at hs;obtain ⟨rfl,rfl,rfl⟩ := hs;generalize hy : ev c env y = yv at r hn;generalize hx : a.eval x = ax at r;cases yv <;> simp only [Y1,ah] at hn <;> try (cases hn; done)
 ·subst hn;cases r;exact Ok.quiet (run hx) (.int _ _ _) hh
 ·cases r with
  | mI _ _ _ ad m cap u hm =>
    subst hm; subst hn;exact Ok.quiet (run hx) (.int _ _ _) hh
  | j8 => simp at hn; subst hn; exact Ok.quiet (run hx) (.int _ _ _) hh
 ·subst hn;cases r;exact Ok.quiet (run hx) (.int _ _ _) hh
theorem Mn (mx : Bool) : ∀ (xs : List AV) (vs : List Value) (k : IntKind) (n : Int) (r : AV),xT mx (.int k n) xs = some r -> xs.length = vs.length -> (∀ (i : Nat) (c : AV) (v : Value),xs[i]? = some c -> vs[i]? = some v -> bT (Rd X φ w) φ c v) ->
  ∃ v,(vs.foldlM (if mx then Builtin.max2 else Builtin.min2) (.int k n)).run P w = .ok v w /\ ∀ R ψ,bT R ψ r v
 | [],[],k,n,r,h,_,_ => by simp [xT] at h; subst h; exact ⟨_,rfl,fun _ _ => .int _ _ _⟩
 | [],_ :: _,_,_,_,_,hl,_ => by simp at hl
 | _ :: _,[],_,_,_,_,hl,_ => by simp at hl
 | x :: xs,v :: vs,k,n,r,h,hl,hr => by
   cases x <;> simp only [xT] at h <;> try (cases h; done)
   rename_i k' m;obtain rfl := iz (hr 0 _ v rfl rfl);obtain ⟨v',h1,h2⟩ := Mn mx xs vs k _ r h (by simpa using hl) (fun i c u hc hu => hr (i + 1) c u (by simpa using hc) (by simpa using hu));refine ⟨v',?_,h2⟩;cases mx
   ·simp only [bn,if_false] at h1 ⊢;simp only [List.foldlM_cons,Builtin.min2,Sem.run_bind,Sem.run_pure,Result.andThen_ok];exact h1
   ·simp only [if_true] at h1 ⊢;simp only [List.foldlM_cons,Builtin.max2,Sem.run_bind,Sem.run_pure,Result.andThen_ok];exact h1
theorem Yp {mx : Bool} {ca : Call} {ys : List E} {v : AV} (fu : o.op = .call ca) (Cb : ca.callee = .builtin (if mx then .max else .min)) (hh : cG X φ w H) (he : nQ X φ w env a.tmps) (hg : dZ c X φ w)
  (lN : jh ca.args.toList ys = true) (hm : wO mx (Da c env ys) = some v) : Ok P X φ w o a v H := by
 obtain ⟨hl,hr⟩ := mM he hg lN;generalize hxs : Da c env ys = xs at hm hl hr;have LY : (ca.args.map a.eval).toList = ca.args.toList.map a.eval := by simp
 cases xs with
 | nil => simp [wO] at hm
 | cons x xs =>
   cases x <;> simp only [wO] at hm <;> try (cases hm; done)
   rename_i k n;cases hav : ca.args.toList.map a.eval with
   | nil => have := congrArg List.length hav; simp at this hl; rw [this] at hl; simp at hl
   | cons u us =>
     rw [hav] at hr;obtain rfl := iz (hr 0 _ u rfl rfl);obtain ⟨v',h1,h2⟩ := Mn (P := P) mx xs us k n v hm (by have := congrArg List.length hav; simp at this hl; omega) (fun i c w' hc hw => hr (i + 1) c w' (by simpa using hc) (by simpa using hw));refine Ok.quiet (v' := v') ?_ (h2 _ _) hh;cases mx
     ·simp only [bn,if_false] at h1 Cb;simp only [execOp,fu,resolve,Cb,invoke,builtin,Builtin.min_,LY,hav,Sem.run_bind,Sem.run_pure,Result.andThen_ok,h1]
     ·simp only [if_true] at h1 Cb;simp only [execOp,fu,resolve,Cb,invoke,builtin,Builtin.max_,LY,hav,Sem.run_bind,Sem.run_pure,Result.andThen_ok,h1]
theorem af8 {t : TypeId} {s : ByteArray} {tab : List Nat} {xi : Operand} {yi : E} {v : AV} {H' : Heap} {fl : Fp} {call : Nat -> List AV -> Heap -> Option (AV × Heap)} (fu : o.op = .index t (.const (.string s)) xi) (hh : cG X φ w H)
  (ri : bT (Rd X φ w) φ (ev c env yi) (a.eval xi)) (hu : (match P.underlying t with
  | some .string => true
  | _ => false) = true) (htab : s.data.toList.map (·.toNat) = tab) (hs : fW c call env H (.VY tab yi) = some (v,H',fl)) : Ok P X φ w o a v H' := by
 split at hu
 case h_2 => cases hu
 rename_i hu0;clear hu;simp only [fW] at hs;split at hs
 case h_2 => cases hs
 rename_i j hj;obtain ⟨kk,ii,e1,e2,e3,e4,e5⟩ := vm hj;rw [e1] at ri;have Zl := iz ri;split at hs
 case h_2 => cases hs
 rename_i u Ll;simp at hs;obtain ⟨rfl,rfl,rfl⟩ := hs;subst htab
 have bL : j < s.size := by
  have h1 : s.data.size = s.size := rfl;have h2 := e5;simp at h2;omega
 have hsj : s[j]? = some s[j] := getElem?_pos s j bL
 have hu2 : s[j].toNat = u := by
  rw [cq] at Ll
  have : s.data.toList[j]? = some s[j] := by
   rw [jL];exact HM bL
  rw [this] at Ll;simpa using Ll
 refine Ok.quiet (v' := .int .u8 u) ?_ (.int _ _ _) hh;subst e4;have dP : a.eval (.const (.string s)) = .string s := rfl;simp only [execOp,fu,dP,Zl,Instr.index,asIntOf,Sem.run_bind,Sem.run_pure,run_underlying hu0,Result.andThen_ok,e2,if_true,hsj,hu2]
theorem agi {ca : Call} {x : Operand} {t : TypeId} {k : Nat} {zs : List AV} {y : E} {v : AV} {H' : Heap} {fl : Fp} {call : Nat -> List AV -> Heap -> Option (AV × Heap)} (fu : o.op = .call ca) (Cb : ca.callee = .builtin .clear) (lN : ca.args = #[x]) (LZ : ca.argTypes = #[t]) (hh : cG X φ w H)
  (r : bT (Rd X φ w) φ (ev c env y) (a.eval x)) (hk : jb P t k = true) (hz : iD P t zs = true) (hs : fW c call env H (.Ov k zs y) = some (v,H',fl)) : Ok P X φ w o a v H' := by
 obtain ⟨e,i,z,hu,hi,wy,hk0,hby,NS,OU⟩ := jg hk;simp only [iD,hu] at hz;obtain ⟨i',z',xe,Hy,dP,wx⟩ := rn (X := X) (φ := φ) (w := w) hz;rw [hi] at xe;simp at xe;subst xe;rw [NS] at Hy;simp at Hy;subst Hy;have yy : zs.length = k := by have := dP.1; simp at this; omega
 have run0 : ∀ {ad : Option Addr} {cap : Nat},a.eval x = .slice ad 0 cap -> (execOp a.eval o).run P w = .ok (.value (.tuple #[])) w := by
  intro ad cap hx;cases ad <;> simp [execOp,fu,resolve,Cb,lN,LZ,invoke,builtin,hx,Builtin.clear_,run_underlying hu]
 simp only [fW] at hs;split at hs
 ·rename_i hy;simp at hs;obtain ⟨rfl,rfl,rfl⟩ := hs;rw [hy] at r;generalize hx : a.eval x = ax at r;cases r;exact Ok.quiet (run0 hx) (.undef _) hh
 ·rename_i k' hy;simp at hs;obtain ⟨rfl,rfl,rfl⟩ := hs;rw [hy] at r;generalize hx : a.eval x = ax at r;cases r with
  | mI _ _ _ ad n cap u hn => simp at hn; subst hn; exact Ok.quiet (run0 hx) (.undef _) hh
  | j8 => exact Ok.quiet (run0 hx) (.undef _) hh
 ·rename_i k' b off len hy;rw [hy] at r;split at hs
  ·rename_i h0;subst h0;simp at hs;obtain ⟨rfl,rfl,rfl⟩ := hs;generalize hx : a.eval x = ax at r;cases r;exact Ok.quiet (run0 hx) (.undef _) hh
  ·rename_i h0;split at hs
   case h_2 => cases hs
   rename_i cs hb;split at hs
   case isFalse => cases hs
   rename_i hc;obtain ⟨rfl,nG⟩ := hc;simp at hs;obtain ⟨rfl,rfl,rfl⟩ := hs;generalize hx : a.eval x = ax at r;cases r with
   | sl _ _ _ _ _ ad cap Xa jH hp =>
     obtain ⟨g,sz,arr,e2,h1,h2,h3,h4,h5,h6⟩ := hh.at hb;obtain rfl := (hp g sz h1).1 (by omega)
     have rp : bT (Rd X φ w) φ (.ptr b off) (.pointer (some ⟨g,off,none⟩)) := .ptr _ _ _ _ Xa fun g' nx Zx => by
      rw [h1] at Zx;simp at Zx;rw [Zx.1]
     have hcz : Cs X φ w (rep zs len) (Builtin.zeroCells z.cells len).toList := by
      refine ⟨by rw [kP,yy]; simp [Builtin.zeroCells,OU],fun j c v hc hv => ?_⟩;obtain ⟨u,q1,q2⟩ := Py dP (n := len) (m := len * k') (by rw [OU]; omega) (arr := Builtin.zeroCells z.cells len) (by simp [Builtin.zeroCells,OU]) (fun i hi => by simp [Builtin.zeroCells,OU,hi]) j c hc;rw [jL,q1] at hv;simp at hv;subst hv;exact q2
     obtain ⟨g',w',e1,HA,q1,q2⟩ := Di (P := P) hh hb rp hcz (hcz.sT (XF wx len)) (by rw [kP,yy]; exact nG);simp at e1;subst e1;refine Ok.value (v' := .tuple #[]) ?_ (.undef _) q1 q2;cases len with
     | zero => exact absurd rfl h0
     | succ m => simp [execOp,fu,resolve,Cb,lN,LZ,invoke,builtin,hx,Builtin.clear_,run_underlying hu,rF hi NS,HA]
 ·cases hs
end
end Go.Am

/- append; calls. -/
namespace Go.Am
section
variable {P : Program} {c : eE} {X : Nat -> Prop} {φ : dy} {w : World} {env : Env} {H : Heap} {a : Act} {o : Oper}

theorem iM {k : Nat} : ∀ {xs : List AV},(∀ x ∈ xs,x.cells.length = k) -> (aH xs).length = xs.length * k /\
  ∀ (p : Nat) (c : AV),(aH xs)[p]? = some c -> ∃ i x j,xs[i]? = some x /\ x.cells[j]? = some c /\ p = i * k + j
 | [],_ => ⟨by simp [aH],fun p c h => by simp [aH] at h⟩
 | x :: r,h => by
   obtain ⟨hl,hm⟩ := iM (xs := r) fun y hy => h y (by simp [hy]);have hx := h x (by simp);refine ⟨by simp [aH,hl,hx,cF]; omega,fun p c hc => ?_⟩;rw [aH] at hc;by_cases hp : p < x.cells.length
   ·rw [az hp] at hc;exact ⟨0,x,p,rfl,hc,by omega⟩
   ·rw [aR (by omega)] at hc;obtain ⟨i,y,j,h1,h2,h3⟩ := hm _ c hc;exact ⟨i + 1,y,j,by simpa using h1,h2,by rw [cF]; omega⟩
theorem wT (hh : cG X φ w H) {k m : Nat} {x : AV} {news : List AV} {v : Value} (h : ji H k x = some (news,m)) (r : bT (Rd X φ w) φ x v) :
  ∃ ao cap vs,v = .slice ao m cap /\ vs.length = m * k /\ Cs X φ w news vs /\ (∀ ad,ao = some ad -> ∀ (j : Nat) (u : Value),vs[j]? = some u -> w.cell? (ad.add j) = some u) /\ (ao = none -> m = 0) := by
 have fin : ∀ {ad : Addr} {cap : Nat} {cs : List AV},L3 X φ w cs ad -> cs.length = m * k -> cs = news -> v = .slice (some ad) m cap ->
   ∃ ao cap vs,v = .slice ao m cap /\ vs.length = m * k /\ Cs X φ w news vs /\ (∀ ad,ao = some ad -> ∀ (j : Nat) (u : Value),vs[j]? = some u -> w.cell? (ad.add j) = some u) /\ (ao = none -> m = 0) := by
  intro ad cap cs hp hl hn hv;obtain ⟨vs,h1,h2,h3⟩ := hp.values cs.length (aT _);subst hn;refine ⟨some ad,cap,vs,hv,by omega,⟨h1.symm,fun i c u hc hu => h3 i c u (by simpa using hc) hu⟩,fun ad' h => ?_,fun h => by cases h⟩;cases h;exact h2
 cases x <;> simp only [ji] at h <;> try (cases h; done)
 ·simp at h;obtain ⟨rfl,rfl⟩ := h;cases r;exact ⟨none,0,[],rfl,by simp,⟨rfl,fun i c u hc => by simp at hc⟩,(fun ad h => by cases h),fun _ => rfl⟩
 ·rename_i k' xs;split at h
  ·rename_i hk;subst hk;simp at h;obtain ⟨rfl,rfl⟩ := h;cases r with
   | mI _ _ _ ad n cap u hn jH hkc hur hr =>
     obtain ⟨hl,hm⟩ := iM hkc;subst hn;refine fin (ad := ad) (cap := cap) (fun p c hc => ?_) hl rfl rfl;obtain ⟨i,y,j,h1,h2,rfl⟩ := hm p c hc;exact ⟨u i j,(hur i j y c h1 h2).2.2,(hr i j y c h1 h2).FN φ⟩
   | j8 => exact ⟨none,0,[],rfl,by simp,⟨rfl,fun i c u hc => by simp [aH] at hc⟩,(fun ad h => by cases h),fun _ => rfl⟩
  ·cases h
 ·rename_i k' b off len;split at h
  case h_2 => cases h
  rename_i cs dP;split at h
  case isFalse => cases h
  rename_i hc;obtain ⟨rfl,nG⟩ := hc;simp at h;obtain ⟨rfl,rfl⟩ := h;cases r with
  | sl _ _ _ _ _ ad cap hb hc hp =>
    obtain ⟨g,sz,arr,e,h1,h2,h3,h4,h5,h6⟩ := hh.at dP;by_cases h0 : len = 0
    ·subst h0;exact ⟨some ad,cap,[],rfl,by simp,⟨by simp,fun i c u hc => by simp at hc⟩,(fun _ _ j u hu => by simp at hu),(fun h => by cases h)⟩
    ·obtain rfl := (hp g sz h1).1 (by omega);refine fin (ad := ⟨g,off,none⟩) (cap := cap) (cs := (cs.drop off).take (len * k')) (fun p c hc => ?_) (by simp; omega) rfl rfl;rw [bF] at hc;split at hc
     ·rw [aU] at hc;obtain ⟨u,hu,r⟩ := h6 _ _ hc;exact ⟨u,by rw [Addr.jd,iF h2]; exact hu,r⟩
     ·cases hc

theorem Ai {t ty e e2 : TypeId} {i : TypeInfo} (ht : P.underlying t = some (.slice e)) (hi : P.info? e = some i)
  {g Pv sCap : Nat} {cur : Array Value} (hg : w.heap[g]? = some (.cells cur e2 (0,0)))
  {a : Addr} {m c : Nat} {news : List Value} (hl : news.length = m * i.size) (aiF : ∀ (j : Nat) (u : Value),news[j]? = some u -> w.cell? (a.add j) = some u) (h1 : ∀ u ∈ news,u.oneCell' = true)
  (aex : Pv + m <= sCap) (nG : Pv * i.size + news.length <= cur.size) :
  (Builtin.append_ #[t,t] ty #[.slice (some ⟨g,0,none⟩) Pv sCap,.slice (some a) m c]).run P w =
   .ok (.slice (some ⟨g,0,none⟩) (Pv + m) sCap) (w.setRow g (cur.toList.take (Pv * i.size) ++ news ++ cur.toList.drop (Pv * i.size + news.length)).toArray) := by
 have hf := run_firstCells_some (P := P) w i.size m a m c news hl aiF;have HA := run_storeCells_at P g (Pv * i.size) e2 news 0 cur w hg (by simpa using nG) h1;simp only [O3] at HA;simp [Builtin.append_,run_underlying ht,sizeOf,typeInfo,hi,Builtin.lenOf,aex,hf,Addr.add_lit,HA]
theorem nY {t ty e : TypeId} {i : TypeInfo} (hu : P.underlying t = some (.slice e)) (hi : P.info? e = some i) {base ao : Option Addr} {n cap c : Nat} (h : n <= cap) :
  (Builtin.append_ #[t,t] ty #[.slice base n cap,.slice ao 0 c]).run P w = .ok (.slice base n cap) w := by
 cases base <;> cases ao <;> simp [Builtin.append_,run_underlying hu,sizeOf,uz hi,Builtin.lenOf,h,Builtin.firstCells,loadCells,loadCellsFrom,storeCells]
theorem agm {ca : Call} {x y : Operand} {t : TypeId} {k : Nat} {x' y' : E} {v : AV} {H' : Heap} {fl : Fp} {call : Nat -> List AV -> Heap -> Option (AV × Heap)} (fu : o.op = .call ca) (Cb : ca.callee = .builtin .append) (lN : ca.args = #[x,y]) (LZ : ca.argTypes = #[t,t])
  (hh : cG X φ w H) (rx : bT (Rd X φ w) φ (ev c env x') (a.eval x)) (ry : bT (Rd X φ w) φ (ev c env y') (a.eval y)) (hk : jb P t k = true) (hs : fW c call env H (.app k x' y') = some (v,H',fl)) : Ok P X φ w o a v H' := by
 obtain ⟨e,i,z,hu,hi,wy,hk0,hby,NS,OU⟩ := jg hk
 have fin : ∀ {p q v' : Value} {w' : World} {φ' : dy},a.eval x = p -> a.eval y = q -> (Builtin.append_ #[t,t] o.type #[p,q]).run P w = .ok v' w' -> bT (Rd X φ' w') φ' v v' -> cG X φ' w' H' -> fJ φ w φ' w' -> Ok P X φ w o a v H' := by
  intro p q v' w' φ' hp hq hr r h k;refine Ok.value ?_ r h k;simp only [execOp,fu,resolve,Cb,lN,LZ,invoke,builtin,List.map_toArray,jE,Vc,hp,hq,Sem.run_bind,Sem.run_pure,Result.andThen_ok,hr]
 simp only [fW] at hs;split at hs
 case h_2 => cases hs
 rename_i news m hsc;obtain ⟨ao,QQ,vs,hy,Zm,Lp,hvc,Uo⟩ := wT hh hsc ry;have hL : lj = 4294967296 := rfl;split at hs
 ·rename_i Hz;rw [Hz] at rx;generalize hx : a.eval x = ax at rx;cases rx;by_cases hm : m = 0
  ·subst hm;simp at hs;obtain ⟨rfl,rfl,rfl⟩ := hs;exact fin hx hy (nY hu hi (aT 0)) (.dz _) hh (.refl _ _)
  ·rw [if_neg hm] at hs;split at hs
   case isFalse => cases hs
   rename_i hc;obtain ⟨Ln,wx⟩ := hc;simp at hs;obtain ⟨rfl,rfl,rfl⟩ := hs;cases ao with
   | none => exact absurd (Uo rfl) hm
   | some ad =>
     have hmb : m * i.bytes <= 4294967296 * 1024 := Nat.mul_le_mul (by omega) hby;have hr := run_append_nil (P := P) w t o.type e i z hu hi NS ad m QQ vs (by rw [Zm,wy]) (hvc ad rfl) (by omega) (by omega) (by omega);have hge := grownCap_ge w m 0 e
     have qg : (vs.toArray ++ Builtin.zeroCells z.cells (grownCap w m 0 e - m)).size = grownCap w m 0 e * k := by
      simp only [WX,rm,size_zeroCells,OU,Zm,<- cF]; congr 1; omega
     obtain ⟨q1,q2⟩ := sI hh (w1 := w.drew) (arr := vs.toArray ++ Builtin.zeroCells z.cells (grownCap w m 0 e - m)) (e := e) (cs := news) rfl rfl rfl rfl
      (by rw [qg,Lp.1,Zm]; exact bM _ hge)
      (Lp.at fun j u hj => by rw [qV (by simpa using aA hj)]; simpa using hj)
     exact fin hx hy hr (KX hh.len hge (by rw [qg]; exact aT _)) q1 q2
 ·rename_i k' b n Hz;split at hs
  case h_2 => cases hs
  rename_i cs dP;split at hs
  case isFalse => cases hs
  rename_i hc;obtain ⟨rfl,hnk,Ln,wx⟩ := hc;simp at hs;obtain ⟨rfl,rfl,rfl⟩ := hs;rw [Hz] at rx;generalize hx : a.eval x = ax at rx;cases rx with
  | sl _ _ _ _ _ ad cap hb jH hp =>
    obtain ⟨g,sz,arr,e2,lv,hg,qg,hle,hX,hm6⟩ := hh.at dP;obtain ⟨NX,aex⟩ := hp g sz lv
    have hold : Cs X φ w (cs.take (n * k')) (arr.toList.take (n * k')) := by
     refine ⟨by simp; omega,fun j x u hx hu => ?_⟩;have hj : j < n * k' := by have := aA hx; simp at this; omega
     rw [aS hj] at hx hu;obtain ⟨u',h1,h2⟩ := hm6 j x hx;simp at hu;rw [h1] at hu;simp at hu;subst hu;exact h2
    have jO := hold.append Lp;have Ge : (arr.toList.take (n * k')).length = n * k' := by simp; omega
    have hlen : (n : Nat) * k' + m * k' = (n + m) * k' := by rw [cF]
    by_cases hm : m = 0
    ·subst hm;have LY : vs = [] := gG (by omega);subst LY
     obtain ⟨q1,q2⟩ := hh.move (cs' := cs.take (n * k') ++ news) (arr' := arr) (w' := w) lv hg qg rfl (by rw [setRow_self w g arr e2 _ hg]) hX
      (by rw [jO.1]; simp; omega) (jO.at fun j u hj => by
       rw [List.append_nil] at hj;have hj' : j < n * k' := by have := aA hj; omega
       rw [aS hj'] at hj;simpa using hj)
     refine fin hx hy (nY hu hi jH) ?_ q1 q2;refine .sl _ _ _ _ _ _ _ (by simp [hh.len]) jH fun g' nx Zx => ?_;rw [aR (by simp [hh.len])] at Zx;simp [hh.len] at Zx;obtain ⟨rfl,rfl⟩ := Zx;exact ⟨NX,by omega⟩
    ·cases ao with
     | none => exact absurd (Uo rfl) hm
     | some ady =>
       have h1c := Lp.sT wx;by_cases Qg : n + m <= cap
       ·obtain rfl := NX (by omega)
        have nG : n * i.size + vs.length <= arr.size := by
         rw [wy,Zm,hlen];have := bM k' Qg;omega
        have hr := Ai (P := P) (ty := o.type) (c := QQ) hu hi hg (by rw [Zm,wy]) (hvc ady rfl) h1c Qg nG;rw [wy] at hr nG
        have zJ : (arr.toList.take (n * k') ++ vs ++ arr.toList.drop (n * k' + vs.length)).toArray.size = arr.size := by
         simp only [rm,bN,bC,dS,pk]; omega
        obtain ⟨q1,q2⟩ := hh.move (cs' := cs.take (n * k') ++ news) (arr' := (arr.toList.take (n * k') ++ vs ++ arr.toList.drop (n * k' + vs.length)).toArray) lv hg qg zJ rfl hX
         (by rw [jO.1,zJ]; simp; omega) (jO.at fun j u hj => by
          simp only [vR];rw [az (aA hj)];exact hj)
        refine fin hx hy hr (TI (by simp [hh.len]) Qg (by omega)) q1 q2
       ·have holds : ∀ (j : Nat) (u : Value),(arr.toList.take (n * k'))[j]? = some u -> w.cell? (ad.add j) = some u := by
         intro j u hj;have hj' : j < n * k' := by have := aA hj; omega
         have hn0 : 0 < n := by
          rcases Nat.eq_zero_or_pos n with h | h
          ·subst h; simp at hj'
          ·exact h
         obtain rfl := NX (by omega);rw [Addr.jd,iF hg];rw [aS hj'] at hj;simpa using hj
        have hmb : (n + m) * i.bytes <= 4294967296 * 1024 := Nat.mul_le_mul (by omega) hby
        have hr := run_append_grow (P := P) w t o.type e i z hu hi NS ad n cap (arr.toList.take (n * k')) (by rw [Ge,wy]) holds ady m QQ vs (by rw [Zm,wy]) (hvc ady rfl) (by omega) (by omega)
         (growslice_fits (by omega) (by omega))
        have hge := grownCap_ge w (n + m) cap e
        have hsz2 : ((arr.toList.take (n * k')).toArray ++ vs.toArray ++ Builtin.zeroCells z.cells (grownCap w (n + m) cap e - (n + m))).size = grownCap w (n + m) cap e * k' := by
         simp only [WX,rm,size_zeroCells,OU,Zm,Ge,<- cF]; congr 1; omega
        obtain ⟨k1,k2⟩ := hh.NB b;have Ji : Cs X (φ.set b none) w (cs.take (n * k') ++ news) (arr.toList.take (n * k') ++ vs) := ⟨jO.1,fun j x u hx hu => k2.rep (jO.2 j x u hx hu)⟩
        obtain ⟨q1,q2⟩ := sI k1 (w1 := w.drew) (arr := (arr.toList.take (n * k')).toArray ++ vs.toArray ++ Builtin.zeroCells z.cells (grownCap w (n + m) cap e - (n + m))) (e := e) (cs := cs.take (n * k') ++ news) rfl rfl rfl rfl
         (by rw [hsz2,jO.1,bN,Ge,Zm,hlen]; exact bM _ hge)
         (Ji.at fun j u hj => by
          rw [qV (by simpa using aA hj)];have : ((arr.toList.take (n * k')).toArray ++ vs.toArray) = (arr.toList.take (n * k') ++ vs).toArray := by simp
          rw [this];simpa using hj)
        refine fin hx hy hr ?_ q1 (k2.trans q2);exact TI (by simp [hh.len]) hge (by rw [hsz2]; exact aT _)
 ·cases hs

theorem abk {ca : Call} {x y : Operand} {t t' : TypeId} {k : Nat} {x' y' : E} {v : AV} {H' : Heap} {fl : Fp} {call : Nat -> List AV -> Heap -> Option (AV × Heap)} (fu : o.op = .call ca) (Cb : ca.callee = .builtin .copy) (lN : ca.args = #[x,y]) (LZ : ca.argTypes = #[t,t'])
  (hh : cG X φ w H) (rx : bT (Rd X φ w) φ (ev c env x') (a.eval x)) (ry : bT (Rd X φ w) φ (ev c env y') (a.eval y)) (hk : jb P t k = true) (hs : fW c call env H (.copy k x' y') = some (v,H',fl)) : Ok P X φ w o a v H' := by
 obtain ⟨e,i,z,hu,hi,wy,hk0,hby,NS,OU⟩ := jg hk
 have fin : ∀ {p q v' : Value} {w' : World} {φ' : dy},a.eval x = p -> a.eval y = q -> (Builtin.copy_ #[t,t'] o.type #[p,q]).run P w = .ok v' w' -> bT (Rd X φ' w') φ' v v' -> cG X φ' w' H' -> fJ φ w φ' w' -> Ok P X φ w o a v H' := by
  intro p q v' w' φ' hp hq hr r h k;refine Ok.value ?_ r h k;simp only [execOp,fu,resolve,Cb,lN,LZ,invoke,builtin,List.map_toArray,jE,Vc,hp,hq,Sem.run_bind,Sem.run_pure,Result.andThen_ok,hr]
 simp only [fW] at hs;split at hs
 case h_2 => cases hs
 rename_i news m hsc;obtain ⟨ao,QQ,vs,hy,Zm,Lp,hvc,Uo⟩ := wT hh hsc ry
 have zero : ∀ {base : Option Addr} {n cap : Nat},Nat.min m n = 0 -> (Builtin.copy_ #[t,t'] o.type #[.slice base n cap,.slice ao m QQ]).run P w = .ok (.int .i64 0) w := by
  intro base n cap h0;cases base <;> cases ao <;> simp [Builtin.copy_,run_underlying hu,Builtin.lenOf,sizeOf,uz hi,h0,Builtin.firstCells,loadCells,loadCellsFrom,storeCells,goInt]
 split at hs
 ·rename_i Hz;rw [Hz] at rx;generalize hx : a.eval x = ax at rx;cases rx;simp at hs;obtain ⟨rfl,rfl,rfl⟩ := hs;exact fin hx hy (zero (Nat.min_zero m)) (.int _ _ _) hh (.refl _ _)
 ·rename_i k' b off n Hz;split at hs
  case h_2 => cases hs
  rename_i cs dP;split at hs
  case isFalse => cases hs
  rename_i hc;obtain ⟨rfl,nG,wx⟩ := hc;simp only [ah,aJ] at hs;obtain ⟨rfl,rfl,rfl⟩ := hs;rw [Hz] at rx;generalize hx : a.eval x = ax at rx;cases rx with
  | sl _ _ _ _ _ ad cap hb jH hp =>
    obtain ⟨g,sz,arr,e2,lv,hg,qg,hle,hX,hm6⟩ := hh.at dP;by_cases h0 : min m n = 0
    ·have e0 : H.set b (some (jv cs off (news.take (min m n * k')))) = H := by
      have e1 : jv cs off (news.take (min m n * k')) = cs := by rw [h0]; simp [jv]
      rw [e1]
      have ia : H[b]? = some (some cs) := by
       unfold aN at dP;split at dP
       ·rename_i q hq;cases dP;exact hq
       ·cases dP
      apply dT;intro j;rw [bm];split
      ·rename_i ej;subst ej;rw [ia];simp [aA ia]
      ·rfl
     have h0' : Nat.min m n = 0 := h0;exact fin hx hy (zero h0') (by rw [h0]; exact .int _ _ _) (by rw [e0]; exact hh) (.refl _ _)
    ·obtain rfl := (hp g sz lv).1 (by omega);cases ao with
     | none => exact absurd (Uo rfl) (by omega)
     | some ady =>
       have rp : bT (Rd X φ w) φ (.ptr b off) (.pointer (some ⟨g,off,none⟩)) := .ptr _ _ _ _ hb fun g' nx Zx => by
        rw [lv] at Zx;simp at Zx;rw [Zx.1]
       have hle2 : min m n * k' <= m * k' := bM _ (Nat.min_le_left _ _);have hle3 : min m n * k' <= n * k' := bM _ (Nat.min_le_right _ _)
       have hcz : Cs X φ w (news.take (min m n * k')) (vs.take (min m n * k')) := by
        refine ⟨by simp [Lp.1],fun j d u hd hu => ?_⟩;have hj : j < min m n * k' := by have := aA hd; rw [bC] at this; omega
        rw [aS hj] at hd hu;exact Lp.2 j d u hd hu
       have hnl : news.length = m * k' := by rw [Lp.1,Zm]
       obtain ⟨g',w',e1,HA,q1,q2⟩ := Di (P := P) hh dP rp hcz (fun u hu => Lp.sT wx u (List.mem_of_mem_take hu)) (by rw [bC]; omega);simp at e1;subst e1
       have hf := run_firstCells_some (P := P) w i.size (min m n) ady m QQ (vs.take (min m n * k')) (by rw [bC,Zm,wy]; omega) (fun j u hj => by
        have hj' : j < min m n * k' := by have := aA hj; rw [bC] at this; omega
        rw [aS hj'] at hj;exact hvc ady rfl j u hj)
       have hmin : Nat.min m n = min m n := rfl;refine fin hx hy (v' := .int .i64 ((min m n : Nat) : Int)) (w' := w') ?_ (.int _ _ _) q1 q2;have Qo : (Builtin.firstCells i.size (Nat.min m n) (.slice (some ady) m QQ)).run P w = .ok (vs.take (min m n * k')).toArray w := hf;simp [Builtin.copy_,run_underlying hu,Builtin.lenOf,sizeOf,uz hi,Qo,HA,goInt]
       try rfl
 ·cases hs

/-! Calls -/
def Ret (X : Nat -> Prop) (φ : dy) (w : World) (r : AV) (H' : Heap) (e : Ending) (w' : World) : Prop :=
 ∃ v' φ',e = .returned v' /\ bT (Rd X φ' w') φ' r v' /\ cG X φ' w' H' /\ fJ φ w φ' w'
def Bo (P : Program) (c : eE) (call : Nat -> List AV -> Heap -> Option (AV × Heap)) : Prop :=
 ∀ f m q,c.fn f = some (m,q) -> ∀ args H r H',call f args H = some (r,H') -> ∀ X φ w vargs,sJ X φ w args vargs -> cG X φ w H -> dZ c X φ w -> Calls P f vargs w (Ret X φ w r H')

theorem cG.im (h : cG X φ w H) {g : Nat} (ho : bQ φ g) : g < w.heap.size /\ ¬ X g := by
 obtain ⟨b,sz,hb⟩ := ho;obtain ⟨x,hx⟩ := aZ (l := H) (i := b) (h.len ▸ aA hb);cases x with
 | none => rw [h.dead b hx] at hb; simp at hb
 | some cs =>
   obtain ⟨g',nx,arr,e,h1,h2,_,_,h5,_⟩ := h.live b cs hx;rw [h1] at hb;simp at hb;rw [<- hb.1];exact ⟨(eK.1 h2).1,h5⟩
theorem cG.empty (h : cG X φ w H) : cG (fun g => X g \/ bQ φ g) [] w [] :=
 ⟨rfl,fun g hg => hg.elim (h.Dh g) (fun ho => (h.im ho).1),fun b cs hb => by simp at hb,fun b hb => by simp at hb,fun b b' g sz nx h1 => by simp at h1⟩
theorem M8 (hh : cG X φ w H) {R : Addr -> Value -> Prop} (hR : ∀ a u,Rd X φ w a u -> R a u) {xs ys : List AV} {bs : List Nat} {n : Nat} {vs : Array Value} (hm : AQ (Bc H n) xs = some (ys,bs))
  (hb : ∀ b ∈ bs,∀ g sz : Nat,φ[b]? = some (some (g,sz)) -> ∀ o u,w.cell? ⟨g,o,none⟩ = some u -> R ⟨g,o,none⟩ u) (ha : sJ X φ w xs vs) :
  ys.length = vs.size /\ ∀ (i : Nat) (c : AV) (v : Value),ys[i]? = some c -> vs[i]? = some v -> bT R [] c v := by
 obtain ⟨hl,Qi⟩ := rU hm;refine ⟨by rw [hl,ha.1],fun i c v hc hv => ?_⟩;obtain ⟨x,hx⟩ := aZ (l := xs) (i := i) (by have := aA hc; omega);obtain ⟨y,b,e1,e2,e3⟩ := Qi i x hx;rw [e2] at hc;simp at hc;subst hc;exact C8 hh hR n x _ v b e1 (fun b' ia => hb b' (e3 b' ia)) (ha.2 i x v hx hv)

theorem AG {call : Nat -> List AV -> Heap -> Option (AV × Heap)} (dX : Bo P c call) {f : Nat} {m : Md} {q : fK} (hf : c.fn f = some (m,q)) {args : List AV} {r r' : AV} {H1 : Heap} {bs : List Nat} (hr : call f args [] = some (r,H1)) (hz : Bc H1 QZ r = some (r',bs))
  (hh : cG X φ w H) (hg : dZ c X φ w) {vargs : Array Value} (ha : args.length = vargs.size /\ ∀ (i : Nat) (c : AV) (v : Value),args[i]? = some c -> vargs[i]? = some v -> bT (Rd X φ w) [] c v) :
  Calls P f vargs w (Ret X φ w r' H) := by
 have wQ : ∀ {w' : World} a u,Rd X φ w' a u -> Rd (fun g => X g \/ bQ φ g) [] w' a u := fun a u ⟨h1,h2,h3⟩ => ⟨fun h => h.elim h1 h2,bQ.nil _,h3⟩;have aiO : ∀ {w' : World} a u,Rd (fun g => X g \/ bQ φ g) [] w' a u -> Rd X φ w' a u := fun a u ⟨h1,_,h3⟩ => ⟨fun h => h1 (.inl h),fun h => h1 (.inr h),h3⟩;refine (dX f m q hf args [] r H1 hr (fun g => X g \/ bQ φ g) [] w vargs ⟨ha.1,fun i x v hx hv => (ha.2 i x v hx hv).mono wQ (.refl _)⟩ hh.empty (fun g => (hg g).mono wQ (.refl _))).mono ?_;rintro e w1 ⟨v',nk,rfl,r1,h1,a1⟩;refine ⟨v',φ,rfl,?_,hh.of_same a1,.of_same a1⟩
 have zK := C8 h1 (R := Rd (fun g => X g \/ bQ φ g) [] w1) (fun a u ⟨p1,p2,p3⟩ => ⟨p1,bQ.nil _,p3⟩) QZ r r' v' bs hz
  (fun b _ g sz hb o u hu => ⟨(h1.im ⟨b,sz,hb⟩).2,bQ.nil _,hu⟩) r1
 exact (zK.mono aiO (.refl _)).FN φ
theorem Jv {call : Nat -> List AV -> Heap -> Option (AV × Heap)} (dX : Bo P c call) {f : Nat} {args : List AV} {r : AV} {H' : Heap} {fl : Fp} (hs : vA c call f args H = some (r,H',fl))
  (hh : cG X φ w H) (hg : dZ c X φ w) {vargs : Array Value} (ha : sJ X φ w args vargs) : (∃ m q,c.fn f = some (m,q)) /\ Calls P f vargs w (Ret X φ w r H') := by
 unfold vA at hs;split at hs
 ·cases hs
 ·rename_i q hf;refine ⟨⟨_,_,hf⟩,?_⟩;split at hs
  case h_2 => cases hs
  rename_i r1 H1 hr;simp at hs;obtain ⟨rfl,rfl,rfl⟩ := hs;exact dX f _ q hf args H r1 H1 hr X φ w vargs ha hh hg
 ·rename_i q hf;refine ⟨⟨_,_,hf⟩,?_⟩;split at hs
  case h_2 => cases hs
  rename_i r1 H1 hr;split at hs
  case h_2 => cases hs
  rename_i r' bs hz;split at hs
  case isFalse => cases hs
  rename_i hc;obtain ⟨hle,hge,dg⟩ := hc;simp at hs;obtain ⟨rfl,rfl,rfl⟩ := hs;refine (dX f _ q hf args H r1 H1 hr X φ w vargs ha hh hg).mono ?_;rintro e w1 ⟨v',nk,rfl,r1,h1,a1⟩;have hlen := hh.len;refine ⟨v',nk.take φ.length,rfl,?_,by rw [hlen]; exact h1.take hle dg,a1.take⟩
  have Zu : ∀ {n : Nat} {l : List Nat},U0 n l = true -> ∀ b ∈ l,n <= b := by
   intro n l
   induction l with
   | nil => intro _ b hb; simp at hb
   | cons x r ih =>
     intro h b hb;simp only [U0,ae,decide_eq_true_eq] at h;rcases aK.1 hb with h' | h'
     ·subst h'; exact h.1
     ·exact ih h.2 b h'
  have zK := C8 h1 (R := Rd X (nk.take φ.length) w1) Rq QZ _ _ v' bs hz (fun b hb g sz lv o u hu => ?_) r1
  ·exact zK.FN _
  ·refine ⟨(h1.im ⟨b,sz,lv⟩).2,fun ⟨b',nx,ia⟩ => ?_,hu⟩;rw [bF] at ia;split at ia
   ·rename_i bL;have := h1.inj b b' g sz nx lv ia;have := Zu hge b hb;omega
   ·cases ia
 ·rename_i q hf;refine ⟨⟨_,_,hf⟩,?_⟩;split at hs
  ·rename_i oX;split at hs
   case h_2 => cases hs
   rename_i r1 H1 hr;split at hs
   case h_2 => cases hs
   rename_i r' bs hz;simp at hs;obtain ⟨rfl,rfl,rfl⟩ := hs;exact AG dX hf hr hz hh hg ⟨ha.1,fun i x v hx hv => (ha.2 i x v hx hv).dJ (p9 oX i x hx) []⟩
  ·split at hs
   case h_2 => cases hs
   rename_i qU bs hm;split at hs
   case h_2 => cases hs
   rename_i r1 H1 hr;split at hs
   case h_2 => cases hs
   rename_i r' bs' hz;split at hs
   ·rename_i aiI;simp at hs;obtain ⟨rfl,rfl,rfl⟩ := hs;have hh0 : cG X [] w [] := ⟨rfl,hh.Dh,fun b cs hb => by simp at hb,fun b hb => by simp at hb,fun b b' g sz nx h1 => by simp at h1⟩;have wQ : ∀ {w' : World} a u,Rd X φ w' a u -> Rd X [] w' a u := fun a u ⟨h1,_,h3⟩ => ⟨h1,bQ.nil _,h3⟩;have C7 := M8 hh (R := Rd X [] w) wQ hm (fun b _ g sz hb o u hu => ⟨(hh.im ⟨b,sz,hb⟩).2,bQ.nil _,hu⟩) ha;have hc := AG (X := X) (φ := []) (H := []) dX hf hr hz hh0 (fun g => (hg g).mono wQ (.refl _)) C7;refine hc.mono ?_;rintro e w1 ⟨v',nk,rfl,r1,h1,a1⟩;exact ⟨v',φ,rfl,r1.of_flat aiI _ _,hh.of_same a1,.of_same a1⟩
   ·simp at hs;obtain ⟨rfl,rfl,rfl⟩ := hs;obtain ⟨k1,k2⟩ := cG.kill bs hh
    have C7 := M8 hh (R := Rd X (NA φ bs) w) k2.rd hm (fun b hb g sz lv o u hu => ⟨(hh.im ⟨b,sz,lv⟩).2,fun ⟨b',nx,ia⟩ => by
     obtain ⟨e1,e2⟩ := I9 bs φ b' _ ia;exact e2 (hh.inj b b' g sz nx lv e1 ▸ hb),hu⟩) ha
    have hc := AG dX hf hr hz k1 (hg.my k2) C7;refine hc.mono ?_;rintro e w1 ⟨v',nk,rfl,r1,h1,a1⟩;exact ⟨v',nk,rfl,r1,h1,k2.trans a1⟩

theorem yI (dg : ON P c) {f : Nat} {m : Md} {q : fK} (hf : c.fn f = some (m,q)) (vargs : Array Value) : (callFunc f vargs).run P w = .ok (.enter f vargs) w := by
 obtain ⟨fn,h1,h2⟩ := dg.fn f m q hf;simp only [chkF,ae,bH] at h2;obtain ⟨⟨⟨_,Jf⟩,_⟩,rZ⟩ := h2
 have hb : fn.body.isNone = false := by
  cases hfb : fn.body with
  | none => rw [hfb] at rZ; cases rZ
  | some b => rfl
 simp only [callFunc,Sem.run_bind,run_program,Result.andThen_ok,h1,Jf,hb,bn,if_false,Sem.run_pure]
theorem Ok.call {f : Nat} {vargs : Array Value} {r : AV} {H' : Heap} (hr : (execOp a.eval o).run P w = .ok (.enter f vargs) w) (hc : Calls P f vargs w (Ret X φ w r H')) : Ok P X φ w o a r H' := by
 intro K Q hK;unfold Oper.wp;rw [hr,Oper.upon_enter];refine hc.mono ?_;rintro e w' ⟨v',φ',rfl,r1,h1,a1⟩;exact hK v' w' φ' r1 h1 a1
theorem abl {call : Nat -> List AV -> Heap -> Option (AV × Heap)} (dg : ON P c) (dX : Bo P c call) {ca : Call} {f : Nat} {ys : List E} {r : AV} {H' : Heap} {fl : Fp} (fu : o.op = .call ca) (Cb : ca.callee = .value (.func f))
  (hh : cG X φ w H) (he : nQ X φ w env a.tmps) (hg : dZ c X φ w) (lN : jh ca.args.toList ys = true) (hs : fW c call env H (.call f ys) = some (r,H',fl)) : Ok P X φ w o a r H' := by
 obtain ⟨hl,hr⟩ := mM he hg lN;obtain ⟨⟨m,q,hf⟩,hc⟩ := Jv (P := P) dX hs hh hg (vargs := ca.args.map a.eval) ⟨by simp [hl],fun i x v hx hv => hr i x v hx (by simpa using hv)⟩;refine Ok.call ?_ hc;simp only [execOp,fu,resolve,Cb,Act.eval,Deferred.ofValue,invoke,Sem.run_bind,Sem.run_pure,Result.andThen_ok,Array.empty_append,Array.append_empty];exact yI dg hf _
theorem Yt {call : Nat -> List AV -> Heap -> Option (AV × Heap)} (dg : ON P c) (dX : Bo P c call) {ca : Call} {x : Operand} {y : E} {ys : List E} {r : AV} {H' : Heap} {fl : Fp} (fu : o.op = .call ca) (Cb : ca.callee = .value x)
  (hh : cG X φ w H) (he : nQ X φ w env a.tmps) (hg : dZ c X φ w) (hx : df x y = true) (lN : jh ca.args.toList ys = true) (hs : fW c call env H (.jc y ys) = some (r,H',fl)) : Ok P X φ w o a r H' := by
 obtain ⟨hl,hr⟩ := mM he hg lN;have rx := bX (a := a) he hg hx;simp only [fW] at hs;split at hs
 case h_2 => cases hs
 rename_i f as bs hy;rw [hy] at rx;generalize OX : a.eval x = ax at rx;cases rx with
 | func _ _ _ va _ vb Ca B9 hra hrb =>
   have jO : sJ X φ w (as ++ Da c env ys ++ bs) (va ++ ca.args.map a.eval ++ vb) := by
    have c1 : Cs X φ w as va.toList := ⟨by simpa using Ca,fun i x v hx hv => hra i x v hx (by simpa using hv)⟩;have c2 : Cs X φ w (Da c env ys) (ca.args.map a.eval).toList := ⟨by simp [hl],fun i x v hx hv => hr i x v hx (by simpa using hv)⟩;have c3 : Cs X φ w bs vb.toList := ⟨by simpa using B9,fun i x v hx hv => hrb i x v hx (by simpa using hv)⟩;have c4 := (c1.append c2).append c3
    exact ⟨by have := c4.1; simp at this ⊢; omega,fun i x v hx hv => c4.2 i x v hx (by
     have : (va ++ ca.args.map a.eval ++ vb).toList = va.toList ++ (ca.args.map a.eval).toList ++ vb.toList := by simp
     rw [<- this,jL]; exact hv)⟩
   obtain ⟨⟨m,q,hf⟩,hc⟩ := Jv (P := P) dX hs hh hg jO;refine Ok.call ?_ hc;simp only [execOp,fu,resolve,Cb,OX,Deferred.ofValue,invoke,Sem.run_bind,Sem.run_pure,Result.andThen_ok];exact yI dg hf _
end
end Go.Am

/- Every operation; regions in the order of the text, and regions that draw their order. -/
namespace Go.Am
section
variable {P : Program} {c : eE} {X : Nat -> Prop} {φ : dy} {w : World} {env : Env} {H : Heap} {a : Act} {o : Oper}

theorem ail {call : Nat -> List AV -> Heap -> Option (AV × Heap)} (dg : ON P c) (dX : Bo P c call) (he : nQ X φ w env a.tmps) (hg : dZ c X φ w) (hh : cG X φ w H) {kd : Kd} {v : AV} {H' : Heap} {fl : Fp}
  (hk : cZ P o.op kd = true) (hs : fW c call env H kd = some (v,H',fl)) : Ok P X φ w o a v H' := by
 generalize fu : o.op = op at hk;unfold cZ at hk;split at hk
 case h_1 =>
  simp [fW] at hs; obtain ⟨rfl,rfl,_⟩ := hs;exact Ok.quiet (by simp [execOp,fu]) (bX he hg hk) hh
 case h_2 =>
  simp [fW] at hs; obtain ⟨rfl,rfl,_⟩ := hs;exact Ok.quiet (by simp [execOp,fu]) (bX he hg hk) hh
 case h_3 =>
  simp only [ae] at hk;simp only [fW] at hs;split at hs
  case h_2 => cases hs
  rename_i t ht;simp at hs; obtain ⟨rfl,rfl,_⟩ := hs;have r := bX (a := a) he hg hk.1.1;rw [ht] at r;exact abg fu hh r (bX he hg hk.1.2) (bX he hg hk.2)
 case h_4 =>
  simp [fW] at hs; obtain ⟨rfl,rfl,_⟩ := hs;exact PF fu hh hk
 case h_5 =>
  simp only [fW] at hs;split at hs
  case isFalse => cases hs
  rename_i hl;simp at hs; obtain ⟨rfl,rfl,_⟩ := hs;exact agj fu hh (bX he hg hk) hl
 case h_6 =>
  simp only [ae] at hk;simp only [fW] at hs;split at hs
  case h_2 => cases hs
  rename_i cs hf;simp at hs; obtain ⟨rfl,rfl,_⟩ := hs;exact Yv fu hh he hg hk.1 hk.2 hf
 case h_7 =>
  simp only [ae,decide_eq_true_eq] at hk;obtain ⟨⟨⟨⟨h1,h2⟩,h3⟩,h4⟩,h5⟩ := hk;subst h1;simp only [fW] at hs;split at hs
  case h_2 => cases hs
  rename_i cs hf;split at hs
  case isFalse => cases hs
  simp at hs; obtain ⟨rfl,rfl,_⟩ := hs;exact VI fu hh he hg h2 h3 h4 h5 hf
 case h_8 =>
  simp only [ae,decide_eq_true_eq] at hk;exact aio fu hh (bX he hg hk.2) hk.1 hs
 case h_9 =>
  simp only [ae] at hk;simp only [fW] at hs;split at hs
  case h_2 => cases hs
  rename_i b off hb;split at hs
  case h_2 => cases hs
  rename_i cs dP;split at hs
  case isFalse => cases hs
  rename_i hc;simp at hs; obtain ⟨rfl,rfl,_⟩ := hs;have r := bX (a := a) he hg hk.1.2;rw [hb] at r;exact Ym fu hh dP hk.1.1 r (bX he hg hk.2) hc.1 hc.2.1 hc.2.2
 case h_10 => exact Yo fu hh (bX he hg hk) hs
 case h_11 =>
  simp only [ae,decide_eq_true_eq] at hk;obtain ⟨⟨h1,h2⟩,h3⟩ := hk;subst h1;simp only [fW] at hs;split at hs
  case h_2 => cases hs
  rename_i r hr;simp at hs; obtain ⟨rfl,rfl,_⟩ := hs;exact agk fu hh (bX he hg h2) (bX he hg h3) hr
 case h_12 =>
  simp only [ae] at hk;obtain ⟨⟨⟨h1,h2⟩,h3⟩,h4⟩ := hk;simp only [fW] at hs;split at hs
  case h_2 => cases hs
  rename_i e hr;simp at hs; obtain ⟨rfl,rfl,_⟩ := hs;have := ok_eq fu hh h1 h2 (bX he hg h3) (bX he hg h4) hr;simpa using this
 case h_13 =>
  simp only [ae,decide_eq_true_eq] at hk;obtain ⟨h1,h2⟩ := hk;subst h1;simp only [fW] at hs;split at hs
  case h_2 => cases hs
  rename_i r hr;simp at hs; obtain ⟨rfl,rfl,_⟩ := hs;exact ain fu hh (bX he hg h2) hr
 case h_14 =>
  simp only [ae] at hk;obtain ⟨⟨h1,h2⟩,h3⟩ := hk;split at h2
  case h_2 => cases h2
  rename_i k' hu;simp at h2;subst h2;simp only [fW] at hs;split at hs
  case h_2 => cases hs
  rename_i k2 n hn;simp at hs; obtain ⟨rfl,rfl,_⟩ := hs;have r := bX (a := a) he hg h3;rw [hn] at r;exact agh fu hh h1 hu r
 case h_15 =>
  simp only [ae,decide_eq_true_eq] at hk;obtain ⟨⟨h1,h2⟩,h3⟩ := hk;subst h1;simp [fW] at hs; obtain ⟨rfl,rfl,_⟩ := hs;exact af4 fu hh he hg h2 h3
 case h_16 =>
  simp only [ae] at hk;obtain ⟨⟨⟨h1,h2⟩,h3⟩,h4⟩ := hk;simp only [fW] at hs;split at hs
  case h_2 => cases hs
  rename_i k1 l k2 cp hl hcp;split at hs
  case isFalse => cases hs
  rename_i hc;simp at hs; obtain ⟨rfl,rfl,_⟩ := hs;have r1 := bX (a := a) he hg h3;have r2 := bX (a := a) he hg h4;rw [hl] at r1;rw [hcp] at r2;exact af3 fu hh h1 h2 r1 r2 hc.1 hc.2.1 hc.2.2
 case h_17 =>
  simp only [ae] at hk;obtain ⟨⟨⟨h1,h2⟩,h3⟩,h4⟩ := hk;exact af1 fu hh he hg h1 h2 h3 h4 hs
 case h_18 =>
  simp only [ae] at hk;exact agd fu hh (bX he hg hk.2) hk.1 hs
 case h_19 =>
  simp only [ae] at hk;exact agc fu hh (bX he hg hk.2) hk.1 hs
 case h_20 =>
  simp only [ae] at hk;exact aga fu hh (bX he hg hk.1.2) (bX he hg hk.2) hk.1.1 hs
 case h_21 =>
  simp only [ae] at hk;exact af9 fu hh (bX he hg hk.1.2) (bX he hg hk.2) hk.1.1 hs
 case h_22 =>
  simp only [ae] at hk;exact aip fu hh (bX he hg hk.1.2) (bX he hg hk.2) hk.1.1 hs
 case h_23 =>
  simp only [ae,decide_eq_true_eq] at hk;exact af8 fu hh (bX he hg hk.2) hk.1.1 hk.1.2 hs
 case h_24 =>
  rename_i args argTypes k zs x;split at hk
  case h_2 => cases hk
  rename_i x' t h1 h2;simp only [ae] at hk;exact agi (x := x') (t := t) fu rfl (gV.1 h1) (gV.1 h2) hh (bX he hg hk.2) hk.1.1 hk.1.2 hs
 case h_25 =>
  simp only [ae,decide_eq_true_eq] at hk;obtain ⟨h1,h2⟩ := hk;subst h1;simp only [fW] at hs;split at hs
  case h_2 => cases hs
  rename_i vs hv;split at hs
  case h_2 => cases hs
  rename_i u hu;simp at hs; obtain ⟨rfl,rfl,_⟩ := hs;have r := bX (a := a) he hg h2;rw [hv] at r;exact age fu hh r hu
 case h_26 =>
  simp only [ae,decide_eq_true_eq] at hk;obtain ⟨h1,h2⟩ := hk;subst h1;exact abl dg dX fu rfl hh he hg h2 hs
 case h_27 =>
  simp only [ae] at hk;exact Yt dg dX fu rfl hh he hg hk.1 hk.2 hs
 case h_28 =>
  rename_i args argTypes y;split at hk
  case h_2 => cases hk
  rename_i x t h1 h2;simp only [ae] at hk;exact af6 (x := x) (t := t) fu rfl (gV.1 h1) (gV.1 h2) hh (bX he hg hk.2) hk.1 hs
 case h_29 =>
  rename_i args argTypes k x y;split at hk
  case h_2 => cases hk
  rename_i x' y' t t' h1 h2;simp only [ae,decide_eq_true_eq] at hk;obtain ⟨⟨⟨h3,h4⟩,h5⟩,h6⟩ := hk;subst h3;exact agm (x := x') (y := y') (t := t) fu rfl (gV.1 h1) (gV.1 h2) hh (bX he hg h5) (bX he hg h6) h4 hs
 case h_30 =>
  simp only [fW] at hs;split at hs
  case h_2 => cases hs
  rename_i r hr;simp at hs; obtain ⟨rfl,rfl,_⟩ := hs;exact Yp (mx := false) fu rfl hh he hg hk hr
 case h_31 =>
  simp only [fW] at hs;split at hs
  case h_2 => cases hs
  rename_i r hr;simp at hs; obtain ⟨rfl,rfl,_⟩ := hs;exact Yp (mx := true) fu rfl hh he hg hk hr
 case h_32 =>
  simp only [ae] at hk;exact agl fu hh he hg hk.2.2 (bX he hg hk.2.1) hk.1 hs
 case h_33 =>
  rename_i args argTypes k x y;split at hk
  case h_2 => cases hk
  rename_i x' y' t t' h1 h2;simp only [ae] at hk;exact abk (x := x') (y := y') (t := t) (t' := t') fu rfl (gV.1 h1) (gV.1 h2) hh (bX he hg hk.1.2) (bX he hg hk.2) hk.1.1 hs
 case h_34 => cases hs
 case h_35 => cases hk

structure SRel (X : Nat -> Prop) (φ : dy) (w : World) (s : St) (a : Act) (N : Nat) : Prop where
 env : nQ X φ w s.env a.tmps
 heap : cG X φ w s.H
 defers : a.defers = []
 size : a.tmps.size = N

theorem X5 (a : Act) (d : Option Nat) (v : Value) : (a.put d v).tmps.size = a.tmps.size /\ (a.put d v).defers = a.defers := by cases d <;> simp [Act.put]
theorem SRel.put {s : St} {N : Nat} {φ' : dy} {w' : World} {d : Option Nat} {v : AV} {v' : Value} {H' : Heap} (h : SRel X φ w s a N) (hd : ∀ i,d = some i -> i < N) (r : bT (Rd X φ' w') φ' v v') (hh : cG X φ' w' H') (k : fJ φ w φ' w') :
  SRel X φ' w' ⟨rL s.env d v,H'⟩ (a.put d v') N := by
 obtain ⟨h1,h2⟩ := X5 a d v';refine ⟨?_,hh,by rw [h2]; exact h.defers,by rw [h1]; exact h.size⟩;cases d with
 | none => exact h.env.my k
 | some i => exact (h.env.my k).put (by rw [h.size]; exact hd i rfl) r
theorem We {ts : Array Value} {g : Nat} {b : Bool} (h : ts.getD g undef = .bool b) : ts[g]? = some (.bool b) := by
 rw [bf] at h;cases hg : ts[g]? with
 | none => rw [hg] at h; simp [undef] at h
 | some v => rw [hg] at h; simp at h; rw [h]
theorem Qv {ts : Array Value} {g : Nat} (h : ts.getD g undef = .tuple #[]) : ts[g]? = none \/ ts[g]? = some (.tuple #[]) := by
 rw [bf] at h;cases hg : ts[g]? with
 | none => exact .inl rfl
 | some v => rw [hg] at h; simp at h; rw [h]; exact .inr rfl

end
end Go.Am

/- Regions that draw their order: the order makes no difference. -/
namespace Go.Am
section
variable {P : Program} {c : eE} {call : Nat -> List AV -> Heap -> Option (AV × Heap)}

theorem jy {e1 e2 : Env} {x : E} (h : ∀ i ∈ x.slot,get e1 i = get e2 i) : ev c e1 x = ev c e2 x := by
 cases x with
 | t i => exact h i (by simp [E.slot])
 | k x => rfl
 | g i => rfl
theorem mL {e1 e2 : Env} : ∀ {xs : List E},(∀ i ∈ mh xs,get e1 i = get e2 i) -> Da c e1 xs = Da c e2 xs
 | [],_ => rfl
 | x :: r,h => by
   simp only [mh,aG] at h;simp only [Da];rw [jy fun i hi => h i (.inl hi),mL fun i hi => h i (.inr hi)]
theorem vu {e1 e2 : Env} : ∀ {ps : List (Nat × Nat × E)} {zs : List AV},(∀ i ∈ pI ps,get e1 i = get e2 i) -> nK c e1 zs ps = nK c e2 zs ps
 | [],_,_ => by simp [nK]
 | (o,s,x) :: r,zs,h => by
   simp only [pI,aG] at h;simp only [nK];rw [jy fun i hi => h i (.inl hi)];split
   ·exact vu fun i hi => h i (.inr hi)
   ·rfl
theorem yh {e1 e2 : Env} {d m : Nat} {x : Option E} (h : ∀ i ∈ HY x,get e1 i = get e2 i) : zY c e1 d m x = zY c e2 d m x := by
 cases x with
 | none => rfl
 | some x => simp only [zY]; rw [jy h]
theorem JL {e1 e2 : Env} {H : Heap} {kd : Kd} (h : ∀ i ∈ kd.reads,get e1 i = get e2 i) : fW c call e1 H kd = fW c call e2 H kd := by
 cases kd <;> simp only [Kd.reads,aG] at h <;> simp only [fW]
 case pick x y z => rw [jy fun i hi => h i (.inl hi),jy fun i hi => h i (.inr (.inl hi)),jy fun i hi => h i (.inr (.inr hi))]
 case build => rw [vu h]
 case dY => rw [vu h]
 case yG k x lo hi => rw [jy fun i hi => h i (.inl hi)]; simp only [yh (c := c) fun i hi => h i (.inr (.inl hi)),yh (c := c) fun i hi => h i (.inr (.inr hi))]
 case HK n x u => simp only [jy (c := c) fun i hi => h i (.inl hi),yh (c := c) fun i hi => h i (.inr hi)]
 case call => rw [mL h]
 case min => rw [mL h]
 case max => rw [mL h]
 case OS => rw [mL fun i hi => h i (.inl hi),mL fun i hi => h i (.inr hi)]
 case jc => rw [jy fun i hi => h i (.inl hi),mL fun i hi => h i (.inr hi)]
 all_goals first
  | rfl
  | rw [jy h]
  | rw [jy fun i hi => h i (.inl hi),jy fun i hi => h i (.inr hi)]
theorem mQ {H : Heap} {b b' : Nat} {x : Q2} (h : b ≠ b') : aN (H.set b x) b' = aN H b' := by
 unfold aN; rw [dq h]
theorem GP {H T : Heap} {b : Nat} (h : b < H.length) : aN (H ++ T) b = aN H b := by
 unfold aN; rw [az h]
def Bn (fp : Fp) (H H' : Heap) (v : AV) (f : Heap -> Option (AV × Heap × Fp)) : Prop :=
 (fp = .no -> H' = H /\ ∀ H2,f H2 = some (v,H2,.no)) /\ (∀ b,fp = .rd b -> H' = H /\ ∀ H2,aN H2 b = aN H b -> f H2 = some (v,H2,.rd b)) /\ (fp = .ra -> H' = H) /\
 (∀ n bs,fp = .wr n bs -> ∀ b,b < n -> b ∉ bs -> aN H' b = aN H b)
theorem Bn.wr0 {H H' : Heap} {v : AV} {f : Heap -> Option (AV × Heap × Fp)} : Bn (.wr 0 []) H H' v f :=
 ⟨(fun h => by cases h),(fun b h => by cases h),(fun h => by cases h),fun n bs h b hb => by cases h; omega⟩
theorem Bn.no {H : Heap} {v : AV} {f : Heap -> Option (AV × Heap × Fp)} (h : ∀ H2,f H2 = some (v,H2,.no)) : Bn .no H H v f :=
 ⟨fun _ => ⟨rfl,h⟩,(fun b h => by cases h),fun _ => rfl,(fun n bs h => by cases h)⟩
theorem Bn.ra {H : Heap} {v : AV} {f : Heap -> Option (AV × Heap × Fp)} : Bn .ra H H v f :=
 ⟨(fun h => by cases h),(fun b h => by cases h),fun _ => rfl,(fun n bs h => by cases h)⟩
theorem Bn.rd {H : Heap} {v : AV} {b : Nat} {f : Heap -> Option (AV × Heap × Fp)} (h : ∀ H2,aN H2 b = aN H b -> f H2 = some (v,H2,.rd b)) : Bn (.rd b) H H v f :=
 ⟨(fun h => by cases h),(fun b' hb => by cases hb; exact ⟨rfl,h⟩),fun _ => rfl,(fun n bs h => by cases h)⟩
theorem Bn.wr {H H' : Heap} {v : AV} {n : Nat} {bs : List Nat} {f : Heap -> Option (AV × Heap × Fp)} (h : ∀ b,b < n -> b ∉ bs -> aN H' b = aN H b) : Bn (.wr n bs) H H' v f :=
 ⟨(fun h => by cases h),(fun b h => by cases h),(fun h => by cases h),fun n' bs' e => by cases e; exact h⟩
theorem Jw {f : Nat} {args : List AV} {H H' : Heap} {v : AV} {fl : Fp} (h : vA c call f args H = some (v,H',fl)) : Bn fl H H' v (vA c call f args) := by
 unfold vA at h;split at h
 ·cases h
 ·split at h
  ·simp at h; obtain ⟨_,_,rfl⟩ := h; exact .wr0
  ·cases h
 ·split at h
  ·split at h
   ·split at h
    ·simp at h; obtain ⟨_,_,rfl⟩ := h; exact .wr0
    ·cases h
   ·cases h
  ·cases h
 ·rename_i q hf;split at h
  ·rename_i hp;split at h
   ·rename_i r H1 hr;split at h
    ·rename_i r' bs hz;simp at h;obtain ⟨rfl,rfl,rfl⟩ := h;exact .no fun H2 => by simp [vA,hf,hp,hr,hz]
    ·cases h
   ·cases h
  ·split at h
   ·split at h
    ·split at h
     ·split at h
      ·simp at h; obtain ⟨_,rfl,rfl⟩ := h; exact .ra
      ·simp at h; obtain ⟨_,_,rfl⟩ := h; exact .wr0
     ·cases h
    ·cases h
   ·cases h
theorem aat {env : Env} {H H' : Heap} {kd : Kd} {v : AV} {fl : Fp} (h : fW c call env H kd = some (v,H',fl)) : Bn fl H H' v (fun H2 => fW c call env H2 kd) := by
 have app : ∀ {T : Heap} (b : Nat),b < H.length -> b ∉ ([] : List Nat) -> aN (H ++ T) b = aN H b := fun b hb _ => GP hb;have st : ∀ {x : Q2} {b0 : Nat} (b : Nat),b < H.length -> b ∉ [b0] -> aN (H.set b0 x) b = aN H b := fun b _ hn => mQ (by simp at hn; exact fun e => hn e.symm)
 have mv : ∀ {x : Q2} {T : Heap} {b0 : Nat} (b : Nat),b < H.length -> b ∉ [b0] -> aN (H.set b0 x ++ T) b = aN H b := fun b hb hn => by
  rw [GP (by simpa using hb)]; exact mQ (by simp at hn; exact fun e => hn e.symm)
 have same : ∀ (b : Nat),b < H.length -> b ∉ ([] : List Nat) -> aN H b = aN H b := fun _ _ _ => rfl;cases kd
 case call f xs => simp only [fW] at h ⊢; exact Jw h
 case jc x xs =>
  simp only [fW] at h ⊢;split at h
  ·exact Jw h
  ·cases h
 case ld ag x =>
  simp only [fW] at h ⊢;split at h
  ·rename_i cs hx;split at h
   ·rename_i u hu;simp at h;obtain ⟨rfl,rfl,rfl⟩ := h;exact .no fun H2 => by simp [hu]
   ·cases h
  ·rename_i b off hx;split at h
   ·rename_i cs hb;split at h
    ·rename_i u hu;simp at h;obtain ⟨rfl,rfl,rfl⟩ := h;exact .rd fun H2 h2 => by simp [h2,hb,hu]
    ·cases h
   ·cases h
  ·cases h
 case HK n x hi =>
  simp only [fW] at h ⊢;split at h
  case h_2 => cases h
  rename_i m hm;split at h
  ·split at h
   ·rename_i hc;simp at h;obtain ⟨rfl,rfl,rfl⟩ := h;exact .no fun H2 => by simp [hc]
   ·cases h
  ·rename_i b off hx;split at h
   ·rename_i cs hb;split at h
    ·rename_i hc;simp at h;obtain ⟨rfl,rfl,rfl⟩ := h;exact .rd fun H2 h2 => by simp [h2,hb,hc]
    ·cases h
   ·cases h
  ·cases h
 all_goals simp only [fW] at h ⊢
 all_goals
  (repeat' split at h)
  all_goals first
   | (cases h; done)
   | (simp at h; obtain ⟨rfl,rfl,rfl⟩ := h; first | exact .wr app | exact .wr st | exact .wr mv | exact .wr same | (refine .no fun H2 => ?_; simp_all; done))
def pG (c : eE) (call : Nat -> List AV -> Heap -> Option (AV × Heap)) (env : Env) (H : Heap) (o : O) : Option (AV × Heap × Fp) :=
 match o.guard with
 | none => fW c call env H o.kd
 | some (g,want) => match get env g with
   | .bool b => if b = want then fW c call env H o.kd else some (.undef,H,.no)
   | .undef => some (.undef,H,.no)
   | _ => none
theorem ux {e1 e2 : Env} {H : Heap} {q : O} (h : ∀ i ∈ q.reads,get e1 i = get e2 i) : pG c call e1 H q = pG c call e2 H q := by
 unfold pG;unfold O.reads at h;simp only [aG] at h;cases hg : q.guard with
 | none => simp only [hg] at h ⊢; exact JL fun i hi => h i (.inr hi)
 | some p =>
   obtain ⟨g,want⟩ := p;simp only [hg] at h ⊢;rw [h g (.inl (by simp)),JL fun i hi => h i (.inr hi)]
theorem Mg {env : Env} {H H' : Heap} {q : O} {v : AV} {fl : Fp} (h : pG c call env H q = some (v,H',fl)) : Bn fl H H' v (fun H2 => pG c call env H2 q) := by
 unfold pG at h ⊢;cases hg : q.guard with
 | none => simp only [hg] at h ⊢; exact aat h
 | some p =>
   obtain ⟨g,want⟩ := p;simp only [hg] at h ⊢;split at h
   ·split at h
    ·rename_i Qs; simp only [Qs,if_true]; exact aat h
    ·rename_i Qs; simp only [Qs,if_false]; simp at h; obtain ⟨rfl,rfl,rfl⟩ := h; exact .no fun _ => rfl
   ·simp at h; obtain ⟨rfl,rfl,rfl⟩ := h; exact .no fun _ => rfl
   ·cases h
theorem mem_iff {i : Nat} : ∀ {l : List Nat},mem i l = true ↔ i ∈ l
 | [] => by simp [mem]
 | j :: r => by
   unfold mem;split
   ·rename_i h; simp [h]
   ·rename_i h; rw [mem_iff]; simp [h]
theorem jV {env : Env} {d : Option Nat} {v : AV} {i : Nat} (h : d ≠ some i) : get (rL env d v) i = get env i := by
 cases d with
 | none => rfl
 | some d => simp only [rL,bE]; rw [if_neg fun e => h (by rw [e])]
theorem acb {env : Env} {H H1 H2 : Heap} {x y : O} {v1 v2 : AV} {f1 f2 : Fp} (hx : pG c call env H x = some (v1,H1,f1)) (hy : pG c call (rL env x.dst v1) H1 y = some (v2,H2,f2))
  (A8 : jI x y = true) (hf : f1.ok f2 = true) :
  ∃ H2',pG c call env H y = some (v2,H2',f2) /\ pG c call (rL env y.dst v2) H2' x = some (v1,H2,f1) /\ ∀ i,get (rL (rL env x.dst v1) y.dst v2) i = get (rL (rL env y.dst v2) x.dst v1) i := by
 have a1 : ∀ d,x.dst = some d -> d ∉ y.reads /\ y.dst ≠ some d := by
  intro d hd;simp only [jI,hd,ae,bH,decide_eq_true_eq] at A8;refine ⟨fun h => ?_,A8.1.2⟩;have := mem_iff.2 h;rw [A8.1.1] at this;cases this
 have a2 : ∀ d,y.dst = some d -> d ∉ x.reads := by
  intro d hd h;simp only [jI,hd,ae,bH] at A8;have := mem_iff.2 h;rw [A8.2] at this;cases this
 have cy : ∀ Hq,pG c call (rL env x.dst v1) Hq y = pG c call env Hq y := fun Hq => ux fun i hi => jV fun e => (a1 i e).1 hi;have cx : ∀ Hq,pG c call (rL env y.dst v2) Hq x = pG c call env Hq x := fun Hq => ux fun i hi => jV fun e => a2 i e hi
 have he : ∀ i,get (rL (rL env x.dst v1) y.dst v2) i = get (rL (rL env y.dst v2) x.dst v1) i := by
  intro i;by_cases h1 : x.dst = some i
  ·have h2 := (a1 i h1).2;rw [jV h2,h1];simp [rL,bE]
  ·rw [jV (env := rL env y.dst v2) h1];by_cases h2 : y.dst = some i
   ·rw [h2]; simp [rL,bE]
   ·rw [jV h2,jV h2,jV h1]
 rw [cy] at hy;obtain ⟨g0,g1,g2,g3⟩ := Mg hx;obtain ⟨k0,k1,k2,k3⟩ := Mg hy;have nm : ∀ {b : Nat} {bs : List Nat},mem b bs = false -> b ∉ bs := fun h hm => by rw [mem_iff.2 hm] at h; cases h
 cases f1 with
 | no =>
   obtain ⟨rfl,h0⟩ := g0 rfl;exact ⟨H2,hy,by rw [cx]; exact h0 H2,he⟩
 | rd b =>
   obtain ⟨rfl,h0⟩ := g1 b rfl;cases f2 with
   | no => obtain ⟨rfl,_⟩ := k0 rfl; exact ⟨_,hy,by rw [cx]; exact hx,he⟩
   | rd b' => obtain ⟨rfl,_⟩ := k1 b' rfl; exact ⟨_,hy,by rw [cx]; exact hx,he⟩
   | ra => obtain rfl := k2 rfl; exact ⟨_,hy,by rw [cx]; exact hx,he⟩
   | wr n bs =>
     simp only [Fp.ok,ae,decide_eq_true_eq,bH] at hf;exact ⟨H2,hy,by rw [cx]; exact h0 H2 (k3 n bs rfl b hf.1 (nm hf.2)),he⟩
 | ra =>
   obtain rfl := g2 rfl;cases f2 with
   | no => obtain ⟨rfl,_⟩ := k0 rfl; exact ⟨_,hy,by rw [cx]; exact hx,he⟩
   | rd b' => obtain ⟨rfl,_⟩ := k1 b' rfl; exact ⟨_,hy,by rw [cx]; exact hx,he⟩
   | ra => obtain rfl := k2 rfl; exact ⟨_,hy,by rw [cx]; exact hx,he⟩
   | wr n bs => simp [Fp.ok] at hf
 | wr n bs =>
   cases f2 with
   | no => obtain ⟨rfl,h0⟩ := k0 rfl; exact ⟨H,h0 H,by rw [cx]; exact hx,he⟩
   | rd b =>
     obtain ⟨rfl,h0⟩ := k1 b rfl;simp only [Fp.ok,ae,decide_eq_true_eq,bH] at hf;exact ⟨H,h0 H (g3 n bs rfl b hf.1 (nm hf.2)).symm,by rw [cx]; exact hx,he⟩
   | ra => simp [Fp.ok] at hf
   | wr n' bs' => simp [Fp.ok] at hf

abbrev Ent := Nat × Oper × O × Fp
def LM (c : eE) (call : Nat -> List AV -> Heap -> Option (AV × Heap)) : List Ent -> Env -> Heap -> Env -> Heap -> Prop
 | [],e,H,e',H' => (∀ i,get e i = get e' i) /\ H = H'
 | p :: r,e,H,e',H' => ∃ v H1,pG c call e H p.2.2.1 = some (v,H1,p.2.2.2) /\ LM c call r (rL e p.2.2.1.dst v) H1 e' H'
theorem LM.congr : ∀ {R : List Ent} {e1 e2 : Env} {H : Heap} {e' : Env} {H' : Heap},(∀ i,get e1 i = get e2 i) -> LM c call R e1 H e' H' -> LM c call R e2 H e' H'
 | [],e1,e2,H,e',H',h,hr => ⟨fun i => (h i).symm.trans (hr.1 i),hr.2⟩
 | p :: r,e1,e2,H,e',H',h,⟨v,H1,h1,h2⟩ => by
   refine ⟨v,H1,by rw [<- ux fun i _ => h i]; exact h1,LM.congr (fun i => ?_) h2⟩;cases hd : p.2.2.1.dst with
   | none => exact h i
   | some d => simp only [rL,bE]; rw [h i]
theorem LM.LG {x : Ent} : ∀ {R1 R2 : List Ent} {e : Env} {H : Heap} {e' : Env} {H' : Heap},(∀ p ∈ R1,jI p.2.2.1 x.2.2.1 = true /\ p.2.2.2.ok x.2.2.2 = true) -> LM c call (R1 ++ x :: R2) e H e' H' -> LM c call (x :: (R1 ++ R2)) e H e' H'
 | [],R2,e,H,e',H',_,hr => hr
 | p :: R1,R2,e,H,e',H',h,⟨v,H1,h1,h2⟩ => by
   obtain ⟨v2,H2,h3,h4⟩ := LM.LG (fun q hq => h q (by simp [hq])) h2;obtain ⟨A8,hf⟩ := h p (by simp);obtain ⟨H2',k1,k2,k3⟩ := acb h1 h3 A8 hf;exact ⟨v2,H2',k1,v,H2,k2,h4.congr k3⟩

inductive Anc (ops : Array Oper) (i : Nat) : Nat -> Prop
 | one {j : Nat} {o : Oper} (ho : ops[j]? = some o) (h : i ∈ direct o) : Anc ops i j
 | via {j k : Nat} {o : Oper} (ho : ops[j]? = some o) (h : k ∈ direct o) (ha : Anc ops i k) : Anc ops i j
theorem xU {o : Oper} {i : Nat} : i ∈ direct o ↔ ∃ e ∈ o.after,Region.binds .any e = true /\ e.on = i := by
 unfold direct;simp only [List.mem_map,List.mem_filter,Pb];constructor
 ·rintro ⟨e,⟨h1,h2⟩,h3⟩; exact ⟨e,h1,h2,h3⟩
 ·rintro ⟨e,h1,h2,h3⟩; exact ⟨e,⟨h1,h2⟩,h3⟩
def Q0 (ops : Array Oper) (listed : Array Bool) : Prop := ∀ j o,ops[j]? = some o -> listed.getD j false = true -> ∀ i ∈ direct o,listed.getD i false = true
theorem Q0.zZ {ops : Array Oper} {listed : Array Bool} (h : Q0 ops listed) {i j : Nat} (ha : Anc ops i j) : ∀ o,ops[j]? = some o -> (∀ k ∈ direct o,listed.getD k false = true) -> listed.getD i false = true := by
 induction ha with
 | one ho hm => intro o ho' hd; rw [ho] at ho'; cases ho'; exact hd _ hm
 | via ho hm ha ih =>
   intro o ho' hd;rw [ho] at ho';cases ho';have hk := hd _ hm;cases ha with
   | one ho2 hm2 => exact h _ _ ho2 hk _ hm2
   | via ho2 hm2 ha2 => exact ih _ ho2 fun l hl => h _ _ ho2 hk l hl
def aax (ops : Array Oper) (zZ : List (List Nat)) : Prop := ∀ j l,zZ[j]? = some l -> ∀ i ∈ l,Anc ops i j
theorem wF {i : Nat} : ∀ {l : List Nat},i ∈ dedup l -> i ∈ l
 | [],h => by simp [dedup] at h
 | x :: r,h => by
   unfold dedup at h;split at h
   ·exact fF _ (wF h)
   ·rcases aK.1 h with h | h
    ·subst h; simp
    ·exact fF _ (wF h)
theorem OH {ops : Array Oper} {zZ : List (List Nat)} (h : aax ops zZ) {j : Nat} {o : Oper} (ho : ops[j]? = some o) : ∀ i ∈ G1 zZ o,Anc ops i j := by
 intro i hi;unfold G1 at hi;rcases aG.1 (wF hi) with hi | hi
 ·exact .one ho hi
 ·obtain ⟨k,hk,wy⟩ := List.mem_flatMap.1 hi;refine .via ho (wF hk) ?_;rw [List.getD_eq_getElem?_getD] at wy;cases hl : zZ[k]? with
  | none => rw [hl] at wy; simp at wy
  | some l => rw [hl] at wy; exact h k l hl i wy
end
end Go.Am

/- A run of the compact code is a run of the dump's code; calls; the theorem that ties a call to the kit's 'Calls'. -/
namespace Go.Am
section
variable {P : Program} {c : eE}

def Ex.to : Ex -> Exit
 | .normal => .normal
 | .exit id => .exit id
 | .ret => .ret

def LW (P : Program) (cd : Code) (Q : Exit -> Act -> World -> Prop) (a : Act) (w : World) : Prop :=
 ∀ (b : Frame) (k : List Item) (cs : List Frame),∃ e a' w',Q e a' w' /\ Arrives P (lone (b.at a (.code cd :: .inLoop cd :: k)) cs w) b k cs e a' w'
theorem LW.loop {cd : Code} {Q : Exit -> Act -> World -> Prop} {a : Act} {w : World} (h : LW P cd Q a w) : (Code.loop cd).wp P Q a w := by
 intro b k cs;obtain ⟨e,a',w',hq,NW⟩ := h b k cs;exact ⟨e,a',w',hq,.of_steps (.one step_loop) NW⟩
theorem LW.step {cd : Code} {Q : Exit -> Act -> World -> Prop} {a : Act} {w : World} (h : cd.wp P (Exit.then (LW P cd Q) Q) a w) : LW P cd Q a w := by
 intro b k cs;obtain ⟨e,a1,w1,hq,NW⟩ := h b (.inLoop cd :: k) cs;cases e with
 | normal =>
   obtain ⟨e2,a2,w2,hq2,aiP⟩ := hq b k cs;exact ⟨e2,a2,w2,hq2,.of_steps (Steps.trans NW (.one step_inLoop)) aiP⟩
 | exit id => exact ⟨_,a1,w1,hq,.pass (x := .inLoop cd) rfl (fun _ _ => .inl (by simp)) NW⟩
 | goto l => exact ⟨_,a1,w1,hq,.pass (x := .inLoop cd) rfl (fun _ _ => .inl (by simp)) NW⟩
 | ret => exact ⟨_,a1,w1,hq,.pass (x := .inLoop cd) rfl (fun _ _ => .inl (by simp)) NW⟩
 | panic ch => exact ⟨_,a1,w1,hq,.pass (x := .inLoop cd) rfl (fun _ _ => .inl (by simp)) NW⟩
 | outgrown => exact ⟨_,a1,w1,hq,.pass (x := .inLoop cd) rfl (fun _ _ => .inl (by simp)) NW⟩

theorem sg : ∀ (args : List AV) (k i : Nat),get (ep k args) i = if k <= i then args[i - k]?.getD .any else .any
 | [],k,i => by simp [ep,get]
 | x :: r,k,i => by
   simp only [ep,get];by_cases h : i = k
   ·subst h; simp
   ·rw [if_neg h,sg r (k + 1) i];by_cases h2 : k + 1 <= i
    ·rw [if_pos h2,if_pos (by omega),show i - k = (i - (k + 1)) + 1 by omega,l9]
    ·rw [if_neg h2,if_neg (by omega)]
theorem XC {X : Nat -> Prop} {φ : dy} {w : World} {s : St} {ts : Array Value} (he : nQ X φ w s.env ts) (hh : cG X φ w s.H) : ∀ {rs : List ResultVar} {qs : List Rv} {xs : List AV},Cm P rs qs = true -> Mr s.H s.env qs = some xs ->
  ∃ vs : List Value,(rs.mapM (m := Sem) fun
   | .tmp t => pure (ts.getD t undef)
   | .cell a t => do loadVar t (<- asAddr (ts.getD a undef))).run P w = .ok vs w /\ Cs X φ w xs vs
 | [],[],xs,_,h => by simp [Mr] at h; subst h; exact ⟨[],rfl,rfl,fun i c v hc => by simp at hc⟩
 | [],_ :: _,_,h,_ => by simp [Cm] at h
 | _ :: _,[],_,h,_ => by simp [Cm] at h
 | r :: rs,q :: qs,xs,h,hx => by
   simp only [Cm,ae] at h;simp only [Mr] at hx;split at hx
   case h_2 => cases hx
   rename_i x ys h1 h2;simp at hx;subst hx;obtain ⟨vs,e1,e2⟩ := XC he hh h.2 h2
   have one : ∃ v,(match r with
    | .tmp t => pure (ts.getD t undef)
    | .cell a t => do loadVar t (<- asAddr (ts.getD a undef)) : Sem Value).run P w = .ok v w /\ bT (Rd X φ w) φ x v := by
    have hr := h.1;unfold chkR at hr;split at hr
    ·rename_i t i;simp at hr;subst hr;simp [XD] at h1;subst h1;exact ⟨_,rfl,he _⟩
    ·rename_i a t i ag;simp only [ae,decide_eq_true_eq] at hr;obtain ⟨rfl,Gj⟩ := hr;have r := he a;simp only [XD] at h1;split at h1
     ·rename_i b off hg;split at h1
      case h_2 => cases h1
      rename_i cs dP;rw [hg] at r;obtain ⟨g,sz,arr,e,h3,_,_,_,_,_,_,h4⟩ := L3.PK hh dP r;obtain ⟨u,h5,h6⟩ := K0 Gj h1 h4;exact ⟨u,by simp [h3,asAddr,h5],h6⟩
     ·rename_i cs hg;rw [hg] at r;obtain ⟨ad,h3,h4⟩ := L3.TD r;obtain ⟨u,h5,h6⟩ := K0 Gj h1 h4;exact ⟨u,by simp [h3,asAddr,h5],h6⟩
     ·cases h1
    ·cases hr
   obtain ⟨v,e3,e4⟩ := one;refine ⟨v :: vs,?_,by simp [e2.1],fun i c u hc hu => ?_⟩
   ·simp only [List.mapM_cons,Sem.run_bind,Sem.run_pure];rw [e3];simp only [Result.andThen_ok];rw [e1];simp only [Result.andThen_ok]
   ·cases i with
    | zero => simp at hc hu; subst hc; subst hu; exact e4
    | succ i => simp at hc hu; exact e2.2 i c u hc hu
theorem Bp {X : Nat -> Prop} {φ : dy} {w : World} {s : St} {ts : Array Value} {fn : Func} {qs : List Rv} {xs : List AV} (he : nQ X φ w s.env ts) (hh : cG X φ w s.H) (hc : Cm P fn.results.toList qs = true) (hx : Mr s.H s.env qs = some xs) :
  ∃ v,(results fn ts).run P w = .ok v w /\ bT (Rd X φ w) φ (nt xs) v := by
 obtain ⟨vs,h1,h2⟩ := XC (P := P) he hh hc hx
 have h3 : (fn.results.mapM (m := Sem) fun
   | .tmp t => pure (ts.getD t undef)
   | .cell a t => do loadVar t (<- asAddr (ts.getD a undef))).run P w = .ok vs.toArray w := by
  rw [<- wM (xs := fn.results),List.mapM_toArray];simp only [Sem.run_map];rw [h1];simp only [Result.andThen_ok]
 have h4 : (results fn ts).run P w = (Result.ok vs.toArray w).andThen (fun (a : Array Value) w' => (pure (if h : a.size = 1 then a[0] else .tuple a) : Sem Value).run P w') := by
  unfold results;simp only [Sem.run_bind];exact congrArg (fun z => Result.andThen z _) h3
 rw [h4];simp only [Result.andThen_ok,Sem.run_pure];refine ⟨_,rfl,?_⟩;obtain ⟨hl,hr⟩ := h2
 match xs,vs,hl,hr with
 | [],[],_,_ => exact .dB _ _ _ rfl fun i c v hc => by simp at hc
 | [x],[v],_,hr => exact hr 0 x v rfl rfl
 | x :: y :: xs,v :: u :: vs,hl,hr =>
   have e : ¬ ((v :: u :: vs).toArray.size = 1) := by simp
   rw [dif_neg e];exact .dB _ _ _ (by simpa using hl) fun i c z hc hz => hr i c z hc (by simpa using hz)

end
end Go.Am
