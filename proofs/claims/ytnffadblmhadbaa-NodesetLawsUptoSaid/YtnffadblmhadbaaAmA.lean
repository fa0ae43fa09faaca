/- The abstract machine: values by value, a small heap of own blocks, and an interpreter with fuel for the compact code. -/
import Derived.WalkKit
import Derived.Laws.StructEq
import Derived.Laws.MakeOwn
namespace Go.Am

inductive AV where
  | any | undef | nilp | nilf | nils
  | int (k : IntKind) (n : Int)
  | bool (b : Bool)
  | str (s : ByteArray)
  | agg (cs : List AV)
  | tup (vs : List AV)
  | list (k : Nat) (xs : List AV)
  | fptr (cs : List AV)
  | ptr (b off : Nat)
  | sl (k b off len : Nat)
  | func (fn : Fn) (first caps : List AV)
  deriving Inhabited

abbrev Blk := Option (List AV)
abbrev Heap := List Blk
abbrev Env := List (Nat × AV)

def LIM : Nat := 4294967296

def get : Env → Nat → AV
  | [], _ => .any
  | (j, u) :: r, i => if i = j then u else get r i
def put : Env → Nat → AV → Env
  | [], i, v => [(i, v)]
  | (j, u) :: r, i, v => if i < j then (i, v) :: (j, u) :: r else if i = j then (i, v) :: r else (j, u) :: put r i v
def mem : Nat → List Nat → Bool
  | _, [] => false
  | i, j :: r => if i = j then true else mem i r
def keepIn (keep : List Nat) : Env → Env
  | [] => []
  | (j, u) :: r => if mem j keep then (j, u) :: keepIn keep r else keepIn keep r
def putd (env : Env) (d : Option Nat) (v : AV) : Env :=
  match d with
  | some d => put env d v
  | none => env
def mkEnv : Nat → List AV → Env
  | _, [] => []
  | i, a :: r => (i, a) :: mkEnv (i + 1) r

def AV.cells : AV → List AV
  | .agg cs => cs
  | x => [x]
def AV.leaf : AV → Bool
  | .any | .undef | .agg _ | .tup _ => false
  | _ => true
def allLeaf : List AV → Bool
  | [] => true
  | x :: r => x.leaf && allLeaf r

mutual
def AV.plain : AV → Bool
  | .ptr _ _ | .sl _ _ _ _ => false
  | .agg cs => plainL cs
  | .tup cs => plainL cs
  | .func _ a b => plainL a && plainL b
  | _ => true
def plainL : List AV → Bool
  | [] => true
  | x :: r => x.plain && plainL r
end
mutual
def AV.flat : AV → Bool
  | .ptr _ _ | .sl _ _ _ _ | .list _ _ | .fptr _ => false
  | .agg cs => flatL cs
  | .tup cs => flatL cs
  | .func _ a b => flatL a && flatL b
  | _ => true
def flatL : List AV → Bool
  | [] => true
  | x :: r => x.flat && flatL r
end
mutual
def AV.refsLt (n : Nat) : AV → Bool
  | .ptr b _ => decide (b < n)
  | .sl _ b _ _ => decide (b < n)
  | .agg cs => refsLtL n cs
  | .tup cs => refsLtL n cs
  | .func _ a b => refsLtL n a && refsLtL n b
  | _ => true
def refsLtL (n : Nat) : List AV → Bool
  | [] => true
  | x :: r => x.refsLt n && refsLtL n r
end
def heapOK (n : Nat) : Heap → Bool
  | [] => true
  | none :: r => heapOK n r
  | some cs :: r => refsLtL n cs && heapOK n r

def blk (H : Heap) (b : Nat) : Option (List AV) :=
  match H[b]? with
  | some (some cs) => some cs
  | _ => none
def el : List AV → AV
  | [.agg cs] => .agg [.agg cs]
  | [x] => x
  | cs => .agg cs
def grp (k : Nat) : Nat → List AV → List AV
  | 0, _ => []
  | n + 1, cs => el (cs.take k) :: grp k n (cs.drop k)
def mapF (f : AV → Option (AV × List Nat)) : List AV → Option (List AV × List Nat)
  | [] => some ([], [])
  | x :: r => match f x, mapF f r with
    | some (y, b), some (ys, bs) => some (y :: ys, b ++ bs)
    | _, _ => none
/-- The value with all that it refers to, by value; and the blocks that were read. -/
def frz (H : Heap) : Nat → AV → Option (AV × List Nat)
  | 0, _ => none
  | n + 1, x => match x with
    | .ptr b off => match blk H b with
      | some cs => match mapF (frz H n) (cs.drop off) with
        | some (ys, bs) => some (.fptr ys, b :: bs)
        | none => none
      | none => none
    | .sl k b off len => match blk H b with
      | some cs => if off + len * k ≤ cs.length then
          match mapF (frz H n) ((cs.drop off).take (len * k)) with
          | some (ys, bs) => some (.list k (grp k len ys), b :: bs)
          | none => none
        else none
      | none => none
    | .agg cs => match mapF (frz H n) cs with
      | some (ys, bs) => some (.agg ys, bs)
      | none => none
    | .tup cs => match mapF (frz H n) cs with
      | some (ys, bs) => some (.tup ys, bs)
      | none => none
    | .func f a c => match mapF (frz H n) a, mapF (frz H n) c with
      | some (ys, bs), some (zs, cs) => some (.func f ys zs, bs ++ cs)
      | _, _ => none
    | x => some (x, [])
def allGe (n : Nat) : List Nat → Bool
  | [] => true
  | b :: r => decide (n ≤ b) && allGe n r
def kill : Heap → List Nat → Heap
  | H, [] => H
  | H, b :: r => kill (H.set b none) r
def DEEP : Nat := 8

inductive E where
  | t (i : Nat) | k (x : AV) | g (i : Nat)
  deriving Inhabited

/-- What is compared: bools, structs of integers and bools, or a slice, pointer or function with nil. -/
inductive Et where
  | bool | str (ints : List Bool) | nsl | nptr | nfn
  deriving Inhabited

inductive Kd where
  | mv (x : E) | pick (c a b : E)
  | new (zs : List AV) | box (x : E)
  | build (zs : List AV) (parts : List (Nat × Nat × E))
  | bslice (k n : Nat) (zs : List AV) (parts : List (Nat × Nat × E))
  | ld (ag : Option Nat) (x : E) | st (k : Nat) (a v : E)
  | nilck (x : E)
  | bin (op : BinOp) (x y : E) | eq (neg : Bool) (t : Et) (x y : E) | un (op : UnOp) (x : E) | cvt (k : IntKind) (x : E)
  | mkf (fn : Fn) (first caps : List E)
  | mks (k : Nat) (zs : List AV) (len cap : E)
  | slc (k : Nat) (x : E) (lo hi : Option E)
  | fad (off : Nat) (x : E) | fld (off : Nat) (ag : Option Nat) (x : E)
  | ixa (k : Nat) (x i : E) | ixp (n k : Nat) (x i : E) | ix (n k : Nat) (ag : Option Nat) (x i : E)
  | ext (i : Nat) (x : E)
  | call (f : Nat) (args : List E) | callv (x : E) (args : List E)
  | ixs (tab : List Nat) (i : E) | clr (k : Nat) (zs : List AV) (x : E)
  | len (x : E) | app (k : Nat) (x y : E) | min (xs : List E) | max (xs : List E) | copy (k : Nat) (x y : E)
  deriving Inhabited

structure O where
  dst : Option Nat
  guard : Option (Nat × Bool)
  kd : Kd
  deriving Inhabited

def E.slot : E → List Nat
  | .t i => [i]
  | _ => []
def slots : List E → List Nat
  | [] => []
  | x :: r => x.slot ++ slots r
def slotsP : List (Nat × Nat × E) → List Nat
  | [] => []
  | p :: r => p.2.2.slot ++ slotsP r
def slotO : Option E → List Nat
  | some x => x.slot
  | none => []
def Kd.reads : Kd → List Nat
  | .mv x | .box x | .ld _ x | .nilck x | .un _ x | .cvt _ x | .fad _ x | .fld _ _ x | .ext _ x | .len x => x.slot
  | .pick c a b => c.slot ++ (a.slot ++ b.slot)
  | .new _ => []
  | .ixs _ i => i.slot
  | .clr _ _ x => x.slot
  | .build _ ps | .bslice _ _ _ ps => slotsP ps
  | .st _ x y | .bin _ x y | .eq _ _ x y | .mks _ _ x y | .ixa _ x y | .ixp _ _ x y | .ix _ _ _ x y | .app _ x y | .copy _ x y => x.slot ++ y.slot
  | .mkf _ a b => slots a ++ slots b
  | .slc _ x lo hi => x.slot ++ (slotO lo ++ slotO hi)
  | .call _ xs | .min xs | .max xs => slots xs
  | .callv x xs => x.slot ++ slots xs
/-- An operation that never touches the heap. -/
def Kd.pure : Kd → Bool
  | .mv _ | .pick _ _ _ | .build _ _ | .nilck _ | .bin _ _ _ | .eq _ _ _ _ | .un _ _ | .cvt _ _ | .mkf _ _ _ | .slc _ _ _ _ | .fad _ _ | .fld _ _ _ | .ixa _ _ _ | .ixp _ _ _ _ | .ix _ _ _ _ _ | .ext _ _ | .ixs _ _ | .len _ | .min _ | .max _ => true
  | _ => false
def O.reads (o : O) : List Nat := (match o.guard with
  | some (g, _) => [g]
  | none => []) ++ o.kd.reads

/-- What an operation does to the heap: nothing; it reads a block; it reads; it changes the listed blocks and those from n on. -/
inductive Fp where
  | no | rd (b : Nat) | ra | wr (n : Nat) (bs : List Nat)
  deriving Inhabited
def Fp.ok : Fp → Fp → Bool
  | .no, _ => true
  | _, .no => true
  | .rd _, .rd _ => true
  | .rd _, .ra => true
  | .ra, .rd _ => true
  | .ra, .ra => true
  | .rd b, .wr n bs => decide (b < n) && !mem b bs
  | .wr n bs, .rd b => decide (b < n) && !mem b bs
  | _, _ => false

inductive C where
  | skip | ret | exit (id : Nat)
  | reg (os : List O) (dr : Bool) (un : List (Nat × Nat)) (keep : List Nat)
  | seq (a b : C) | cond (c : E) (a b : C) | blk (id : Nat) (b : C) | loop (b : C)
  deriving Inhabited

inductive Md where | P | T | K
  deriving Inhabited
inductive Rv where | t (i : Nat) | c (i : Nat) (ag : Option Nat)
  deriving Inhabited
structure AFn where
  n : Nat
  np : Nat
  res : List Rv
  body : C
  deriving Inhabited
structure Cfg where
  fn : Nat → Option (Md × AFn)
  gl : Nat → List AV
  orc : Nat → Option (List AV → Heap → Option (AV × Heap))

inductive Ex where | normal | exit (id : Nat) | ret
  deriving Inhabited
structure St where
  env : Env
  H : Heap
  deriving Inhabited

def ev (c : Cfg) (env : Env) : E → AV
  | .t i => get env i
  | .k x => x
  | .g i => .fptr (c.gl i)
def evs (c : Cfg) (env : Env) : List E → List AV
  | [] => []
  | x :: r => ev c env x :: evs c env r

def rdc (ag : Option Nat) (cs : List AV) : Option AV :=
  match ag with
  | some k => if k ≤ cs.length then some (.agg (cs.take k)) else none
  | none => cs.head?
def ovw (cs : List AV) (off : Nat) (vs : List AV) : List AV := cs.take off ++ vs ++ cs.drop (off + vs.length)
def idx (x : AV) (len : Nat) : Option Nat :=
  match x with
  | .int _ i => if 0 ≤ i ∧ i < (len : Int) then some i.toNat else none
  | _ => none
/-- A bound of a slice expression. -/
def bnd (x : AV) (hi : Nat) : Option Nat :=
  match x with
  | .int _ i => if 0 ≤ i ∧ i ≤ (hi : Int) then some i.toNat else none
  | _ => none
/-- A bound that may be left out. -/
def bndO (c : Cfg) (env : Env) (dflt hi : Nat) : Option E → Option Nat
  | none => some dflt
  | some x => bnd (ev c env x) hi
def fillA (c : Cfg) (env : Env) : List AV → List (Nat × Nat × E) → Option (List AV)
  | zs, [] => some zs
  | zs, (off, sz, x) :: r =>
    if (ev c env x).cells.length = sz ∧ off + sz ≤ zs.length ∧ allLeaf (ev c env x).cells = true then fillA c env (ovw zs off (ev c env x).cells) r else none

def arith (op : BinOp) (k : IntKind) (x y : Int) : Option AV :=
  match op with
  | .add => some (.int k (k.wrap (x + y)))
  | .sub => some (.int k (k.wrap (x - y)))
  | .mul => some (.int k (k.wrap (x * y)))
  | .quo => if y = 0 then none else some (.int k (k.wrap (x.tdiv y)))
  | .rem => if y = 0 then none else some (.int k (x.tmod y))
  | .and => some (.int k (bits .and k x y))
  | .or => some (.int k (bits .or k x y))
  | .xor => some (.int k (bits .xor k x y))
  | .andNot => some (.int k (bits .andNot k x y))
  | .eql => some (.bool (x == y))
  | .neq => some (.bool (x != y))
  | .lss => some (.bool (decide (x < y)))
  | .leq => some (.bool (decide (x ≤ y)))
  | .gtr => some (.bool (decide (y < x)))
  | .geq => some (.bool (decide (y ≤ x)))
  | _ => none
/-- Two structs of integers and bools, cell by cell. -/
def eqc : List Bool → List AV → List AV → Option Bool
  | [], [], [] => some true
  | true :: l, .int k a :: r, .int k' b :: s => if k = k' then match eqc l r s with
    | some e => some (a == b && e)
    | none => none
    else none
  | false :: l, .bool a :: r, .bool b :: s => match eqc l r s with
    | some e => some (a == b && e)
    | none => none
  | _, _, _ => none
/-- Whether a value equals nil, if that is known. -/
def isNil : Et → AV → Option Bool
  | .nsl, .nils => some true
  | .nsl, .sl _ _ _ _ => some false
  | .nsl, .list _ (_ :: _) => some false
  | .nptr, .nilp => some true
  | .nptr, .ptr _ _ => some false
  | .nptr, .fptr _ => some false
  | .nfn, .nilf => some true
  | .nfn, .func _ _ _ => some false
  | _, _ => none
def eqA : Et → AV → AV → Option Bool
  | .bool, .bool a, .bool b => some (a == b)
  | .str l, .agg xs, .agg ys => eqc l xs ys
  | .nsl, x, .nils => isNil .nsl x
  | .nptr, x, .nilp => isNil .nptr x
  | .nfn, x, .nilf => isNil .nfn x
  | _, _, _ => none
def binA (op : BinOp) (x y : AV) : Option AV :=
  match x, y with
  | .int k a, .int k' b => match op with
    | .shl => if b < 0 then none else some (.int k (k.wrap (a * 2 ^ (min b.toNat k.bits))))
    | .shr => if b < 0 then none else some (.int k (a.fdiv (2 ^ (min b.toNat k.bits))))
    | op => if k = k' then arith op k a b else none
  | _, _ => none
def unA (op : UnOp) (x : AV) : Option AV :=
  match op, x with
  | .neg, .int k n => some (.int k (k.wrap (0 - n)))
  | .xor, .int k n => some (.int k (bits .xor k (if k.signed then -1 else k.max) n))
  | .not, .bool b => some (.bool (!b))
  | _, _ => none
def flatCells : List AV → List AV
  | [] => []
  | x :: r => x.cells ++ flatCells r
/-- The cells of a slice and its length. -/
def sliceCells (H : Heap) (k : Nat) : AV → Option (List AV × Nat)
  | .nils => some ([], 0)
  | .list k' xs => if k' = k then some (flatCells xs, xs.length) else none
  | .sl k' b off len => match blk H b with
    | some cs => if k' = k ∧ off + len * k ≤ cs.length then some ((cs.drop off).take (len * k), len) else none
    | none => none
  | _ => none
def lenA : AV → Option Nat
  | .nils => some 0
  | .list _ xs => some xs.length
  | .sl _ _ _ len => some len
  | _ => none
def minF (mx : Bool) : AV → List AV → Option AV
  | x, [] => some x
  | .int k a, .int _ b :: r => minF mx (.int k (if mx then (if b > a then b else a) else (if b < a then b else a))) r
  | _, _ => none
def minA (mx : Bool) : List AV → Option AV
  | .int k a :: r => minF mx (.int k a) r
  | _ => none
def rep (zs : List AV) : Nat → List AV
  | 0 => []
  | n + 1 => zs ++ rep zs n

def doCall (c : Cfg) (call : Nat → List AV → Heap → Option (AV × Heap)) (f : Nat) (args : List AV) (H : Heap) : Option (AV × Heap × Fp) :=
  match c.fn f with
  | none => none
  | some (.K, _) => match call f args H with
    | some (r, H') => some (r, H', .wr 0 [])
    | none => none
  | some (.T, _) => match call f args H with
    | some (r, H') => match frz H' DEEP r with
      | some (r', bs) => if H.length ≤ H'.length ∧ allGe H.length bs = true ∧ heapOK H.length (H'.take H.length) = true then some (r', H'.take H.length, .wr 0 []) else none
      | none => none
    | none => none
  | some (.P, _) => if plainL args then
      match call f args [] with
      | some (r, H') => match frz H' DEEP r with
        | some (r', _) => some (r', H, .no)
        | none => none
      | none => none
    else match mapF (frz H DEEP) args with
      | some (args', bs) => match call f args' [] with
        | some (r, H') => match frz H' DEEP r with
          | some (r', _) => if r'.flat then some (r', H, .ra) else some (r', kill H bs, .wr 0 [])
          | none => none
        | none => none
      | none => none

/-- One operation: its value, the heap behind it, and what it did to the heap. -/
def aOp (c : Cfg) (call : Nat → List AV → Heap → Option (AV × Heap)) (env : Env) (H : Heap) : Kd → Option (AV × Heap × Fp)
  | .mv x => some (ev c env x, H, .no)
  | .pick t a b => match ev c env t with
    | .bool t => some (if t then ev c env a else ev c env b, H, .no)
    | _ => none
  | .new zs => some (.ptr H.length 0, H ++ [some zs], .wr H.length [])
  | .box x => if allLeaf (ev c env x).cells then some (.ptr H.length 0, H ++ [some (ev c env x).cells], .wr H.length []) else none
  | .build zs ps => match fillA c env zs ps with
    | some cs => some (.agg cs, H, .no)
    | none => none
  | .bslice k n zs ps => match fillA c env (rep zs n) ps with
    | some cs => if allLeaf cs then some (.sl k H.length 0 n, H ++ [some cs], .wr H.length []) else none
    | none => none
  | .ld ag x => match ev c env x with
    | .fptr cs => match rdc ag cs with
      | some v => some (v, H, .no)
      | none => none
    | .ptr b off => match blk H b with
      | some cs => match rdc ag (cs.drop off) with
        | some v => some (v, H, .rd b)
        | none => none
      | none => none
    | _ => none
  | .st k a v => match ev c env a with
    | .ptr b off => match blk H b with
      | some cs => if (ev c env v).cells.length = k ∧ off + k ≤ cs.length ∧ allLeaf (ev c env v).cells = true then
          some (.undef, H.set b (some (ovw cs off (ev c env v).cells)), .wr H.length [b]) else none
      | none => none
    | _ => none
  | .nilck x => match ev c env x with
    | .ptr b off => some (.ptr b off, H, .no)
    | .fptr cs => some (.fptr cs, H, .no)
    | .func (.func f) a b => some (.func (.func f) a b, H, .no)
    | _ => none
  | .bin op x y => match binA op (ev c env x) (ev c env y) with
    | some v => some (v, H, .no)
    | none => none
  | .eq ng t x y => match eqA t (ev c env x) (ev c env y) with
    | some e => some (.bool (if ng then !e else e), H, .no)
    | none => none
  | .un op x => match unA op (ev c env x) with
    | some v => some (v, H, .no)
    | none => none
  | .cvt k x => match ev c env x with
    | .int _ n => some (.int k (k.wrap n), H, .no)
    | _ => none
  | .mkf fn a b => some (.func fn (evs c env a) (evs c env b), H, .no)
  | .mks k zs l cp => match ev c env l, ev c env cp with
    | .int _ l, .int _ cp => if 0 ≤ l ∧ l ≤ cp ∧ cp ≤ (LIM : Int) then some (.sl k H.length 0 l.toNat, H ++ [some (rep zs l.toNat)], .wr H.length []) else none
    | _, _ => none
  | .slc k x lo hi => match lenA (ev c env x) with
    | some n => match bndO c env n n hi with
      | some h => match bndO c env 0 h lo with
        | some l => match ev c env x with
          | .nils => some (.nils, H, .no)
          | .list k' xs => if k' = k then some (.list k ((xs.take h).drop l), H, .no) else none
          | .sl k' b off _ => if k' = k then some (.sl k b (off + l * k) (h - l), H, .no) else none
          | _ => none
        | none => none
      | none => none
    | none => none
  | .fad off x => match ev c env x with
    | .ptr b o => some (.ptr b (o + off), H, .no)
    | .fptr cs => some (.fptr (cs.drop off), H, .no)
    | _ => none
  | .fld off ag x => match ev c env x with
    | .agg cs => match rdc ag (cs.drop off) with
      | some v => some (v, H, .no)
      | none => none
    | _ => none
  | .ixa k x i => match ev c env x with
    | .list k' xs => match idx (ev c env i) xs.length with
      | some j => if k' = k then match xs[j]? with
          | some v => some (.fptr v.cells, H, .no)
          | none => none
        else none
      | none => none
    | .sl k' b off len => match idx (ev c env i) len with
      | some j => if k' = k then some (.ptr b (off + j * k), H, .no) else none
      | none => none
    | _ => none
  | .ixp n k x i => match idx (ev c env i) n with
    | some j => match ev c env x with
      | .ptr b off => some (.ptr b (off + j * k), H, .no)
      | .fptr cs => some (.fptr (cs.drop (j * k)), H, .no)
      | _ => none
    | none => none
  | .ix n k ag x i => match idx (ev c env i) n with
    | some j => match ev c env x with
      | .agg cs => match rdc ag (cs.drop (j * k)) with
        | some v => some (v, H, .no)
        | none => none
      | _ => none
    | none => none
  | .ixs tab i => match idx (ev c env i) tab.length with
    | some j => match tab[j]? with
      | some v => some (.int .u8 v, H, .no)
      | none => none
    | none => none
  | .clr k zs x => match ev c env x with
    | .nils => some (.undef, H, .wr H.length [])
    | .list _ [] => some (.undef, H, .wr H.length [])
    | .sl k' b off len => if len = 0 then some (.undef, H, .wr H.length []) else match blk H b with
      | some cs => if k' = k ∧ off + len * k ≤ cs.length then some (.undef, H.set b (some (ovw cs off (rep zs len))), .wr H.length [b]) else none
      | none => none
    | _ => none
  | .ext i x => match ev c env x with
    | .tup vs => match vs[i]? with
      | some v => some (v, H, .no)
      | none => none
    | _ => none
  | .call f args => doCall c call f (evs c env args) H
  | .callv x args => match ev c env x with
    | .func (.func f) a b => doCall c call f (a ++ evs c env args ++ b) H
    | _ => none
  | .len x => match lenA (ev c env x) with
    | some n => some (.int .i64 n, H, .no)
    | none => none
  | .app k x y => match sliceCells H k (ev c env y) with
    | some (news, m) => match ev c env x with
      | .nils => if m = 0 then some (.nils, H, .wr H.length []) else if m ≤ LIM ∧ allLeaf news = true then some (.sl k H.length 0 m, H ++ [some news], .wr H.length []) else none
      | .sl k' b 0 n => match blk H b with
        | some cs => if k' = k ∧ n * k ≤ cs.length ∧ n + m ≤ LIM ∧ allLeaf news = true then some (.sl k H.length 0 (n + m), H.set b none ++ [some (cs.take (n * k) ++ news)], .wr H.length [b]) else none
        | none => none
      | _ => none
    | none => none
  | .min xs => match minA false (evs c env xs) with
    | some v => some (v, H, .no)
    | none => none
  | .max xs => match minA true (evs c env xs) with
    | some v => some (v, H, .no)
    | none => none
  | .copy k x y => match sliceCells H k (ev c env y) with
    | some (news, m) => match ev c env x with
      | .nils => some (.int .i64 0, H, .wr H.length [])
      | .sl k' b off n => match blk H b with
        | some cs => if k' = k ∧ off + n * k ≤ cs.length ∧ allLeaf news = true then some (.int .i64 (min m n : Nat), H.set b (some (ovw cs off (news.take (min m n * k)))), .wr H.length [b]) else none
        | none => none
      | _ => none
    | none => none

def stepO (c : Cfg) (call : Nat → List AV → Heap → Option (AV × Heap)) (s : St) (o : O) : Option (St × Fp) :=
  match o.guard with
  | none => match aOp c call s.env s.H o.kd with
    | some (v, H, fl) => some (⟨putd s.env o.dst v, H⟩, fl)
    | none => none
  | some (g, want) => match get s.env g with
    | .bool b => if b = want then
        match aOp c call s.env s.H o.kd with
        | some (v, H, fl) => some (⟨putd s.env o.dst v, H⟩, fl)
        | none => none
      else some (⟨putd s.env o.dst .undef, s.H⟩, .no)
    | .undef => some (⟨putd s.env o.dst .undef, s.H⟩, .no)
    | _ => none
def aOps (c : Cfg) (call : Nat → List AV → Heap → Option (AV × Heap)) : List O → St → Option (St × List Fp)
  | [], s => some (s, [])
  | o :: r, s => match stepO c call s o with
    | some (s', fl) => match aOps c call r s' with
      | some (s'', fls) => some (s'', fl :: fls)
      | none => none
    | none => none
/-- Operations whose order is open do not touch each other's blocks. -/
def okDraw (fls : List Fp) : List (Nat × Nat) → Bool
  | [] => true
  | (i, j) :: r => (fls.getD i .ra).ok (fls.getD j (.wr 0 [])) && okDraw fls r

def resA (H : Heap) (env : Env) : Rv → Option AV
  | .t i => some (get env i)
  | .c i ag => match get env i with
    | .ptr b off => match blk H b with
      | some cs => rdc ag (cs.drop off)
      | none => none
    | .fptr cs => rdc ag cs
    | _ => none
def resL (H : Heap) (env : Env) : List Rv → Option (List AV)
  | [] => some []
  | r :: rs => match resA H env r, resL H env rs with
    | some v, some vs => some (v :: vs)
    | _, _ => none
def tupOf : List AV → AV
  | [x] => x
  | vs => .tup vs

def callW (c : Cfg) (run : C → St → Option (Ex × St)) (f : Nat) (args : List AV) (H : Heap) : Option (AV × Heap) :=
  match c.orc f with
  | some g => g args H
  | none => match c.fn f with
    | none => none
    | some (_, fn) => if args.length ≤ fn.n then
        match run fn.body ⟨mkEnv 0 args, H⟩ with
        | some (.ret, s) => match resL s.H s.env fn.res with
          | some vs => some (tupOf vs, s.H)
          | none => none
        | some (.normal, s) => match resL s.H s.env fn.res with
          | some vs => some (tupOf vs, s.H)
          | none => none
        | _ => none
      else none

def aCode (c : Cfg) : Nat → C → St → Option (Ex × St)
  | 0, _, _ => none
  | n + 1, cd, s => match cd with
    | .skip => some (.normal, s)
    | .ret => some (.ret, s)
    | .exit id => some (.exit id, s)
    | .reg os dr un keep => match aOps c (callW c (aCode c n)) os s with
      | some (s', fls) => if dr = false ∨ okDraw fls un = true then some (.normal, ⟨keepIn keep s'.env, s'.H⟩) else none
      | none => none
    | .seq a b => match aCode c n a s with
      | some (.normal, s') => aCode c n b s'
      | r => r
    | .cond x a b => match ev c s.env x with
      | .bool t => if t then aCode c n a s else aCode c n b s
      | _ => none
    | .blk id b => match aCode c n b s with
      | some (.exit id', s') => if id' = id then some (.normal, s') else some (.exit id', s')
      | r => r
    | .loop b => match aCode c n b s with
      | some (.normal, s') => aCode c n (.loop b) s'
      | r => r
def aCall (c : Cfg) (n : Nat) (f : Nat) (args : List AV) (H : Heap) : Option (AV × Heap) := callW c (aCode c n) f args H
end Go.Am
