/- The machine by value: a slice that is owned is a value, too; others that refer to it borrow it from its place. -/
import Derived.Test.YteomjfokokneoaaDoorMa
set_option linter.unusedVariables false

open Bool renaming and_eq_true → ab, false_eq_true → aX
open Nat renaming beq → jQ, eq_of_beq_eq_true → bU
namespace Go.Bm
open Go.Am

structure Md where
 sh : Bool
 ow : Bool
 cl : Bool
 deriving Inhabited
structure dN where
 fn : Nat -> Option (Md × fO)
 gl : Nat -> List AV
 orc : Nat -> Option (List AV -> Heap -> Option (AV × Heap))
 inp : Nat -> Option (Nat -> List AV -> List AV -> Option (List AV × Option Nat))
 eat : Nat -> Option (Nat -> List AV -> List AV -> Option (List AV)) := fun _ => none
 loc : Nat -> Bool := fun _ => false
 emp : Nat -> Bool := fun _ => false
 mov : Nat -> Option Nat := fun _ => none

def ff : Nat := 1000000
def km : Nat := 500000
def Oe : Nat := 1000000
def tM (b j : Nat) : Nat := b + (j + 1) * Oe
def JS (b x : Nat) : Bool := decide (Oe <= x) && (decide (b <= x) && decide ((x - b) % Oe = 0))
def lv (b : Nat) : List Nat -> Bool
 | [] => false
 | x :: r => decide (x = b) || (JS b x || lv b r)
def marks : List Nat -> List Nat
 | [] => []
 | i :: r => (i + km) :: marks r

/-! Values -/
mutual
def b8 (g : AV -> AV) : AV -> AV
 | .dp k p off len => g (.dp k p off len)
 | .eK k p i off => g (.eK k p i off)
 | .agg cs => .agg (cC g cs)
 | .dW cs => .dW (cC g cs)
 | .func f a b => .func f (cC g a) (cC g b)
 | .any => .any | .undef => .undef | .fi => .fi | .eV => .eV | .dc => .dc
 | .int k n => .int k n | .bool b => .bool b | .str s => .str s
 | .list k xs => .list k xs | .cX cs => .cX cs | .ptr b off => .ptr b off | .sl k b off len => .sl k b off len
 | .own k xs => .own k xs
def cC (g : AV -> AV) : List AV -> List AV
 | [] => []
 | x :: r => b8 g x :: cC g r
end
mutual
def aL : AV -> List Rt
 | .dp _ p _ _ => [p]
 | .eK _ p _ _ => [p]
 | .agg cs => cQ cs
 | .dW cs => cQ cs
 | .func _ a b => cQ a ++ cQ b
 | _ => []
def cQ : List AV -> List Rt
 | [] => []
 | x :: r => aL x ++ cQ r
end
mutual
def pl : AV -> Bool
 | .own _ _ | .dp _ _ _ _ | .eK _ _ _ _ | .ptr _ _ | .sl _ _ _ _ => false
 | .agg cs => j5 cs
 | .dW cs => j5 cs
 | .func _ a b => j5 a && j5 b
 | _ => true
def j5 : List AV -> Bool
 | [] => true
 | x :: r => pl x && j5 r
end
def fz (x : AV) : Bool := x.leaf && pl x
def UU : List AV -> Bool
 | [] => true
 | x :: r => fz x && UU r
def bw : List AV -> Bool
 | [] => false
 | .own _ _ :: _ => true
 | _ :: r => bw r
def bI : AV -> Bool
 | .own _ _ => true
 | .agg cs => bw cs
 | _ => false
mutual
def clean : AV -> Bool
 | .list _ xs => xs.isEmpty
 | .cX _ | .any | .func _ _ _ | .dp _ _ _ _ | .eK _ _ _ _ | .ptr _ _ | .sl _ _ _ _ => false
 | .own _ xs => fj xs
 | .agg cs => fj cs
 | .dW cs => fj cs
 | _ => true
def fj : List AV -> Bool
 | [] => true
 | x :: r => clean x && fj r
end

/-! Places -/
def fh (f : Nat -> Rt) : Nat -> List AV -> List AV
 | _,[] => []
 | j,.own k xs :: r => .dp k (f j) 0 xs.length :: fh f (j + 1) r
 | j,x :: r => x :: fh f (j + 1) r
def eG (i : Nat) : AV -> AV
 | .own k xs => .dp k (.s i) 0 xs.length
 | .agg cs => .agg (fh (.sc i) 0 cs)
 | v => v
def at_ (s : St) : Rt -> Option AV
 | .s i => some (get s.env i)
 | .sc i j => match get s.env i with
   | .agg cs => cs[j]?
   | _ => none
 | .c b j => match aH s.H b with
   | some cs => cs[j]?
   | none => none
def aC (s : St) (p : Rt) : Option (Nat × List AV) :=
 match at_ s p with
 | some (.own k xs) => some (k,xs)
 | _ => none
def setAt (s : St) (p : Rt) (v : AV) : St :=
 match p with
 | .s i => ⟨put s.env i v,s.H⟩
 | .sc i j => match get s.env i with
   | .agg cs => ⟨put s.env i (.agg (cs.set j v)),s.H⟩
   | _ => s
 | .c b j => match aH s.H b with
   | some cs => ⟨s.env,s.H.set b (some (cs.set j v))⟩
   | none => s
def jC (g : AV -> AV) : Env -> Env
 | [] => []
 | (i,v) :: r => (i,b8 g v) :: jC g r
def ft (g : AV -> AV) : Heap -> Heap
 | [] => []
 | none :: r => none :: ft g r
 | some cs :: r => some (cC g cs) :: ft g r
def bW (g : AV -> AV) (s : St) : St := ⟨jC g s.env,ft g s.H⟩

def sw (p : Rt) : AV -> AV
 | .dp k q off len => if q = p then .any else .dp k q off len
 | .eK k q i off => if q = p then .any else .eK k q i off
 | v => v
def rt (p q : Rt) (n : Nat) : AV -> AV
 | .dp k r off len => if r = p then (if off + len <= n then .dp k q off len else .any) else .dp k r off len
 | .eK k r i off => if r = p then (if i < n then .eK k q i off else .any) else .eK k r i off
 | v => v
def fb (p : Rt) (k : Nat) (xs : List AV) : AV -> AV
 | .dp k' q off len => if q = p then (if k' = k /\ off + len <= xs.length then .list k ((xs.drop off).take len) else .any) else .dp k' q off len
 | .eK k' q i off => if q = p then (if k' = k then match xs[i]? with
   | some x => .cX (x.cells.drop off)
   | none => .any
   else .any) else .eK k' q i off
 | v => v
def FB (s : St) (p : Rt) : St :=
 match aC s p with
 | some (k,xs) => setAt (bW (fb p k xs) s) p (.list k xs)
 | none => s
def dB : List Rt -> St -> St
 | [],s => s
 | p :: r,s => dB r (FB s p)

def YK (p : Rt) (q : Rt) : AV -> Option Rt
 | .dp _ r _ _ => if r = p then some q else none
 | _ => none
def YM (p : Rt) (f : Nat -> Rt) : Nat -> List AV -> Option Rt
 | _,[] => none
 | j,x :: r => match YK p (f j) x with
   | some y => some y
   | none => YM p f (j + 1) r
def borS (p : Rt) (i : Nat) : AV -> Option Rt
 | .agg cs => YM p (.sc i) 0 cs
 | v => YK p (.s i) v
def borE (p : Rt) : Env -> Option Rt
 | [] => none
 | (i,v) :: r => match borS p i v with
   | some y => some y
   | none => borE p r
def YL (p : Rt) : Nat -> Heap -> Option Rt
 | _,[] => none
 | b,none :: r => YL p (b + 1) r
 | b,some cs :: r => match YM p (.c b) 0 cs with
   | some y => some y
   | none => YL p (b + 1) r
def Nz (p : Rt) (s : St) : Option Rt :=
 match borS p ff (get s.env ff) with
 | some y => some y
 | none => match borE p s.env with
   | some y => some y
   | none => YL p 0 s.H
def rel (s : St) (p : Rt) : St :=
 match aC s p with
 | none => s
 | some (k,xs) => match Nz p s with
   | none => setAt (bW (sw p) s) p .any
   | some q => match at_ s q with
     | some (.dp _ r 0 len) => if r = p then setAt (setAt (bW (rt p q len) s) p .any) q (.own k (xs.take len)) else FB s p
     | _ => FB s p
def GM (i : Nat) : Nat -> List AV -> St -> St
 | _,[],s => s
 | j,.own _ _ :: r,s => GM i (j + 1) r (rel s (.sc i j))
 | j,_ :: r,s => GM i (j + 1) r s
def zZ (s : St) (i : Nat) : St :=
 match get s.env i with
 | .own _ _ => rel s (.s i)
 | .agg cs => GM i 0 cs s
 | _ => s
def m4 (keep : List Nat) : Env -> St -> St
 | [],s => s
 | (i,_) :: r,s => m4 keep r (if mem i keep then s else zZ s i)
def qf (keep : List Nat) : Env -> Bool
 | [] => false
 | (i,v) :: r => (!mem i keep && bI v) || qf keep r

def jl (i d : Nat) : Rt -> Rt
 | .s j => if j = i then .s d else .s j
 | .sc j l => if j = i then .sc d l else .sc j l
 | .c b j => .c b j
def Un (i d : Nat) : AV -> AV
 | .dp k p off len => .dp k (jl i d p) off len
 | .eK k p l off => .eK k (jl i d p) l off
 | v => v
def J0 (s : St) (d : Nat) : St :=
 let s1 := bW (Un ff d) s
 ⟨put (put s1.env ff .any) d (get s1.env ff),s1.H⟩
def vf (f : Rt -> Bool) : List Rt -> Bool
 | [] => false
 | p :: r => f p || vf f r
def Gr (f : Rt -> Bool) : Env -> Bool
 | [] => false
 | (_,v) :: r => vf f (aL v) || Gr f r
def Gp (f : Rt -> Bool) : Heap -> Bool
 | [] => false
 | none :: r => Gp f r
 | some cs :: r => vf f (cQ cs) || Gp f r
def Gs (f : Rt -> Bool) (s : St) (v : AV) : Bool := vf f (aL v) || (Gr f s.env || Gp f s.H)
def bq (d : Nat) : Rt -> Bool
 | .s i => decide (i = d)
 | .sc i _ => decide (i = d)
 | .c _ _ => false
def cE (b off k : Nat) : Rt -> Bool
 | .c c j => decide (c = b) && (decide (off <= j) && decide (j < off + k))
 | _ => false
def KF (s : St) (d : Nat) (v : AV) : Bool := bI (get s.env d) && Gs (bq d) s v
def T6 (s : St) (d : Nat) (v : AV) : Option St :=
 if KF s d v then
  match get s.env ff with
  | .any => if bI (get (zZ ⟨put s.env ff v,s.H⟩ d).env d) then none else some (J0 (zZ ⟨put s.env ff v,s.H⟩ d) d)
  | _ => none
 else some ⟨put s.env d v,s.H⟩
def wQ (s : St) (d : Option Nat) (v : AV) : Option St :=
 match d with
 | some d => T6 s d v
 | none => some s

/-! Boxes that nobody refers to -/
mutual
def po (b : Nat) : AV -> Bool
 | .ptr c _ => decide (c ≠ b)
 | .sl _ c _ _ => decide (c ≠ b)
 | .dp _ (.c d _) _ _ => decide (d ≠ b)
 | .eK _ (.c d _) _ _ => decide (d ≠ b)
 | .agg cs => jL b cs
 | .dW cs => jL b cs
 | .func _ x y => jL b x && jL b y
 | _ => true
def jL (b : Nat) : List AV -> Bool
 | [] => true
 | x :: r => po b x && jL b r
end
def AN (b : Nat) : Env -> Bool
 | [] => true
 | (_,v) :: r => po b v && AN b r
def uE (b : Nat) : Heap -> Bool
 | [] => true
 | none :: r => uE b r
 | some cs :: r => jL b cs && uE b r
def trim (base : Nat) (env : Env) : Nat -> Heap -> Heap
 | 0,H => H
 | n + 1,H => if base <= n /\ H.length = n + 1 /\ AN n env = true /\ uE n (H.take n) = true then trim base env n (H.take n) else H
def Yo (base : Nat) (keep : List Nat) (s : St) : St := ⟨pw keep s.env,trim base (pw keep s.env) s.H.length s.H⟩
def PR (base : Nat) (keep : List Nat) (s : St) : Option St :=
 if qf keep s.env then
  if qf keep (m4 keep s.env s).env then none else some (Yo base keep (m4 keep s.env s))
 else some (Yo base keep s)

/-! Operations -/
def bn (c : dN) (env : Env) : E -> AV
 | .t i => eG i (get env i)
 | .k x => x
 | .g i => .cX (c.gl i)
def di (c : dN) (env : Env) : List E -> List AV
 | [] => []
 | x :: r => bn c env x :: di c env r
def cont (s : St) (k : Nat) : AV -> Option (List AV)
 | .list k' xs => if k' = k then some xs else none
 | .own _ [] => some []
 | .dp k' p off len => match aC s p with
   | some (vO,xs) => if k' = k /\ vO = k /\ off + len <= xs.length then some ((xs.drop off).take len) else none
   | none => none
 | _ => none
def Yg : AV -> Option AV
 | .own k xs => some (.list k xs)
 | x => if fz x then some x else none
def IJ : List AV -> Option (List AV)
 | [] => some []
 | x :: r => match Yg x,IJ r with
   | some y,some ys => some (y :: ys)
   | _,_ => none
def Nv (s : St) (k b off len : Nat) : Option AV :=
 match aH s.H b with
 | some cs => if k = 1 /\ off + len <= cs.length then match IJ ((cs.drop off).take len) with
   | some ys => some (.list 1 ys)
   | none => none
   else none
 | none => none
mutual
def kg (sh : Bool) (s : St) : AV -> Option AV
 | .dp k p off len => match aC s p with
   | some (k',xs) => if k' = k /\ off + len <= xs.length then some (.list k ((xs.drop off).take len)) else none
   | none => none
 | .own _ _ => none
 | .agg cs => match CF sh s cs with
   | some ds => some (.agg ds)
   | none => none
 | .dW cs => match CF sh s cs with
   | some ds => some (.dW ds)
   | none => none
 | .func f a b => match CF sh s a,CF sh s b with
   | some a',some b' => some (.func f a' b')
   | _,_ => none
 | .ptr b off => if sh then some (.ptr b off) else none
 | .eK _ _ _ _ => none
 | .sl _ _ _ _ => none
 | .any => none
 | x => some x
def CF (sh : Bool) (s : St) : List AV -> Option (List AV)
 | [] => some []
 | x :: r => match kg sh s x,CF sh s r with
   | some y,some ys => some (y :: ys)
   | _,_ => none
end
mutual
def PO (s : St) : AV -> Option AV
 | .sl k b off len => Nv s k b off len
 | .dW cs => match IH s cs with
   | some ds => some (.dW ds)
   | none => none
 | x => kg false s x
def IH (s : St) : List AV -> Option (List AV)
 | [] => some []
 | x :: r => match PO s x,IH s r with
   | some y,some ys => some (y :: ys)
   | _,_ => none
end
def gI : AV -> AV
 | .own k [] => .list k []
 | v => v
def s6 (s : St) : List AV -> Option (List AV)
 | [] => some []
 | .own k [] :: r => match s6 s r with
   | some ys => some (.list k [] :: ys)
   | none => none
 | .sl k b off len :: r => match Nv s k b off len,s6 s r with
   | some y,some ys => some (y :: ys)
   | _,_ => none
 | x :: r => match kg false s x,s6 s r with
   | some y,some ys => some (y :: ys)
   | _,_ => none
def Dt : List AV -> List Rt
 | [] => []
 | .sl _ b _ _ :: r => .c b 1 :: Dt r
 | _ :: r => Dt r
mutual
def js : AV -> Bool
 | .own _ _ | .dp _ _ _ _ | .eK _ _ _ _ => false
 | .agg cs => fx cs
 | .dW cs => fx cs
 | .func _ a b => fx a && fx b
 | _ => true
def fx : List AV -> Bool
 | [] => true
 | x :: r => js x && fx r
end
def PA : AV -> Option Nat
 | .dc => some 0
 | .own _ [] => some 0
 | .list _ xs => some xs.length
 | .dp _ _ _ len => some len
 | .sl _ _ _ len => some len
 | _ => none
def xU (c : dN) (env : Env) (dflt hi : Nat) : Option E -> Option Nat
 | none => some dflt
 | some x => bnd (bn c env x) hi
def n8 (c : dN) (env : Env) : List AV -> List (Nat × Nat × E) -> Option (List AV)
 | zs,[] => some zs
 | zs,(off,sz,x) :: r =>
   if (bn c env x).cells.length = sz /\ off + sz <= zs.length /\ bm (bn c env x).cells = true then n8 c env (jf zs off (bn c env x).cells) r else none
def gB : Et -> AV -> Option Bool
 | .Pj,.dc => some true
 | .Pj,.dp _ _ _ len => if len = 0 then none else some false
 | .Pj,.list _ (_ :: _) => some false
 | .Pj,.sl _ _ _ _ => some false
 | .EZ,.fi => some true
 | .EZ,.ptr _ _ => some false
 | .EZ,.cX _ => some false
 | .nfn,.eV => some true
 | .nfn,.func _ _ _ => some false
 | _,_ => none
def eqB : Et -> AV -> AV -> Option Bool
 | .bool,.bool a,.bool b => some (a == b)
 | .str l,.agg xs,.agg ys => zW l xs ys
 | .Pj,x,.own _ [] => gB .Pj x
 | .Pj,x,.dc => gB .Pj x
 | .EZ,x,.fi => gB .EZ x
 | .nfn,x,.eV => gB .nfn x
 | _,_,_ => none
def Jp (ag : Option Nat) (cs : List AV) : Option AV :=
 match AE ag cs with
 | some v => if bI v then none else some v
 | none => none
def Pb (c : dN) (env : Env) : Kd -> Option AV
 | .mv x => some (bn c env x)
 | .pick t a b => match bn c env t with
   | .bool t => some (if t then bn c env a else bn c env b)
   | _ => none
 | .build zs ps => match n8 c env zs ps with
   | some cs => some (.agg cs)
   | none => none
 | .kP x => match bn c env x with
   | .ptr b off => some (.ptr b off)
   | .cX cs => some (.cX cs)
   | .func (.func f) a b => some (.func (.func f) a b)
   | _ => none
 | .bin op x y => jq op (bn c env x) (bn c env y)
 | .eq ng t x y => match eqB t (bn c env x) (bn c env y) with
   | some e => some (.bool (if ng then !e else e))
   | none => none
 | .un op x => OC op (bn c env x)
 | .S7 k x => match bn c env x with
   | .int _ n => some (.int k (k.wrap n))
   | _ => none
 | .GC fn a b => if bw (di c env a ++ di c env b) then none else some (.func fn (di c env a) (di c env b))
 | .Av k x lo hi => match PA (bn c env x) with
   | some n => match xU c env n n hi with
     | some h => match xU c env 0 h lo with
       | some l => match bn c env x with
         | .own k' xs => if k' = k then some (.own k xs) else none
         | .list k' xs => if k' = k then some (.list k ((xs.take h).drop l)) else none
         | .dp k' p off _ => if k' = k then some (.dp k p (off + l) (h - l)) else none
         | .sl k' b off _ => if k' = k then some (.sl k b (off + l * k) (h - l)) else none
         | _ => none
       | none => none
     | none => none
   | none => none
 | .dt off x => match bn c env x with
   | .ptr b o => some (.ptr b (o + off))
   | .cX cs => some (.cX (cs.drop off))
   | .eK k p i o => some (.eK k p i (o + off))
   | _ => none
 | .I8 n x hi => match hi with
   | none => match bn c env x with
     | .cX cs => if n <= cs.length /\ bm (cs.take n) = true then some (.list 1 (cs.take n)) else none
     | _ => none
   | some _ => none
 | .UW off ag x => match bn c env x with
   | .agg cs => Jp ag (cs.drop off)
   | _ => none
 | .gq k x i => match bn c env x with
   | .list k' xs => match idx (bn c env i) xs.length with
     | some j => if k' = k then match xs[j]? with
       | some v => some (.cX v.cells)
       | none => none
       else none
     | none => none
   | .dp k' p off len => match idx (bn c env i) len with
     | some j => if k' = k then some (.eK k p (off + j) 0) else none
     | none => none
   | .sl k' b off len => match idx (bn c env i) len with
     | some j => if k' = k then some (.ptr b (off + j * k)) else none
     | none => none
   | _ => none
 | .SJ n k x i => match idx (bn c env i) n with
   | some j => match bn c env x with
     | .ptr b off => some (.ptr b (off + j * k))
     | .cX cs => some (.cX (cs.drop (j * k)))
     | .eK k' p l off => some (.eK k' p l (off + j * k))
     | _ => none
   | none => none
 | .ix n k ag x i => match idx (bn c env i) n with
   | some j => match bn c env x with
     | .agg cs => Jp ag (cs.drop (j * k))
     | _ => none
   | none => none
 | .Ux tab i => match idx (bn c env i) tab.length with
   | some j => match tab[j]? with
     | some v => some (.int .u8 v)
     | none => none
   | none => none
 | .ext i x => match bn c env x with
   | .dW vs => match vs[i]? with
     | some v => if bI v then none else some v
     | none => none
   | _ => none
 | .len x => match PA (bn c env x) with
   | some n => some (.int .i64 n)
   | none => none
 | .min xs => xH false (di c env xs)
 | .max xs => xH true (di c env xs)
 | _ => none

def gg (c : dN) (env : Env) : List (Nat × Nat × E) -> List Rt
 | [] => []
 | (_,_,x) :: r => aL (bn c env x) ++ gg c env r
inductive Fq where
 | no | rc (b j : Nat) | rd (ps : List Rt) | al (n : Nat) | wr (sl : List Nat) (bs : Option (List Nat)) | all | sp | bo (ps : List Rt) | lw (b : Nat)
 deriving Inhabited
def zM (p : Rt) : List Rt -> Bool
 | [] => false
 | q :: r => decide (q = p) || zM p r
def isRoot (p : Rt) (i : Nat) : Bool :=
 match p with
 | .s j => decide (j = i)
 | .sc j _ => decide (j = i)
 | .c _ _ => false
def jU (p : Rt) : Env -> List Nat
 | [] => []
 | (i,v) :: r => if zM p (aL v) || isRoot p i then i :: jU p r else jU p r
def oV (p : Rt) : Nat -> Heap -> List Nat
 | _,[] => []
 | b,none :: r => oV p (b + 1) r
 | b,some cs :: r => if zM p (cQ cs) then b :: oV p (b + 1) r else oV p (b + 1) r
def dT : List Rt -> Bool
 | [] => false
 | .c _ _ :: _ => true
 | _ :: r => dT r
def eC : Env -> List Nat
 | [] => []
 | (i,v) :: r => if dT (aL v) then i :: eC r else eC r
def Kz (k : Nat) (x : AV) (off : Nat) (vs : List AV) : AV := if off = 0 /\ vs.length = k then el vs else el (jf x.cells off vs)
def xy (s : St) (ag : Option Nat) : AV -> Option (AV × List Rt)
 | .cX cs => match Jp ag cs with
   | some v => some (v,[])
   | none => none
 | .ptr b off => match aH s.H b with
   | some cs => match Jp ag ((fh (.c b) 0 cs).drop off) with
     | some v => some (v,[.c b (if (aL v).isEmpty then 1 else 0)])
     | none => none
   | none => none
 | .eK k p i off => match aC s p with
   | some (k',xs) => if k' = k then match xs[i]? with
     | some x => match Jp ag (x.cells.drop off) with
       | some v => some (v,[p])
       | none => none
     | none => none
     else none
   | none => none
 | _ => none
def qS (b : Nat) : Nat -> Nat -> St -> St
 | _,0,s => s
 | j,n + 1,s => qS b (j + 1) n (match aC s (.c b j) with
   | some _ => rel s (.c b j)
   | none => s)
def iQ (i b off : Nat) : Rt -> Rt
 | .s j => if j = i then .c b off else .s j
 | .sc j l => if j = i then .c b (off + l) else .sc j l
 | .c d j => .c d j
def jm (i b off : Nat) : AV -> AV
 | .dp k p o len => .dp k (iQ i b off p) o len
 | .eK k p l o => .eK k (iQ i b off p) l o
 | v => v
def jE (s : St) (b off k : Nat) : Option St :=
 match aH (bW (jm ff b off) s).H b with
 | some cs => if (get (bW (jm ff b off) s).env ff).cells.length = k /\ off + k <= cs.length /\ bw ((cs.drop off).take k) = false /\ bm (get (bW (jm ff b off) s).env ff).cells = true then
   some ⟨put (bW (jm ff b off) s).env ff .any,(bW (jm ff b off) s).H.set b (some (jf cs off (get (bW (jm ff b off) s).env ff).cells))⟩
   else none
 | none => none
def wm (s : St) (b off k : Nat) (v : AV) : Option (St × Fq) :=
 match aH s.H b with
 | some cs => if v.cells.length = k /\ off + k <= cs.length /\ bm v.cells = true then
   if bw ((cs.drop off).take k) && Gs (cE b off k) s v then
    match get s.env ff with
    | .any => match jE (qS b off k ⟨put s.env ff v,s.H⟩) b off k with
      | some s' => some (s',.all)
      | none => none
    | _ => none
   else some (⟨s.env,s.H.set b (some (jf cs off v.cells))⟩,.wr [] (some [b]))
   else none
 | none => none
def rootOf : Rt -> List Nat
 | .s i => [i]
 | .sc i _ => [i]
 | .c _ _ => []
def nA : Rt -> List Nat
 | .c b _ => [b]
 | _ => []
def SU : Rt -> List Nat
 | .c b _ => [tM b 99999]
 | _ => []
def Og (s : St) (k : Nat) (a v : AV) : Option (St × Fq) :=
 match a with
 | .ptr b off => wm s b off k v
 | .eK k' p i off => match aC s p with
   | some (vO,xs) => if vO = k' then match xs[i]? with
     | some x => if v.cells.length = k /\ off + k <= k' /\ UU v.cells = true then some (setAt s p (.own k' (xs.set i (Kz k' x off v.cells))),.wr (marks (rootOf p)) (some (SU p))) else none
     | none => none
     else none
   | none => none
 | _ => none

def jP : AV -> AV
 | .dp _ (.c _ _) _ _ => .any
 | .eK _ (.c _ _) _ _ => .any
 | x => x
def cz : Rt -> Bool
 | .c _ _ => false
 | _ => true
def gj : Heap -> Bool
 | [] => true
 | none :: _ => false
 | some cs :: r => !vf cz (cQ cs) && gj r
def oq : AV -> AV
 | .dp k (.c b j) off len => .dp k (.c b j) off len
 | .eK k (.c b j) i off => .eK k (.c b j) i off
 | .dp _ _ _ _ => .any
 | .eK _ _ _ _ => .any
 | x => x
def fnE : Fn -> Fn -> Bool
 | .func f,y => match y with | .func g => jQ f g | _ => false
 | _,_ => false
mutual
def vc : AV -> AV -> Bool
 | .any,y => match y with | .any => true | _ => false
 | .undef,y => match y with | .undef => true | _ => false
 | .fi,y => match y with | .fi => true | _ => false
 | .eV,y => match y with | .eV => true | _ => false
 | .dc,y => match y with | .dc => true | _ => false
 | .int k n,y => match y with | .int k' n' => decide (k = k') && decide (n = n') | _ => false
 | .bool b,y => match y with | .bool b' => b == b' | _ => false
 | .str _,_ => false
 | .agg x,y => match y with | .agg x' => tV x x' | _ => false
 | .dW x,y => match y with | .dW x' => tV x x' | _ => false
 | .list k x,y => match y with | .list k' x' => jQ k k' && tV x x' | _ => false
 | .cX x,y => match y with | .cX x' => tV x x' | _ => false
 | .ptr b o,y => match y with | .ptr b' o' => jQ b b' && jQ o o' | _ => false
 | .sl k b o l,y => match y with | .sl k' b' o' l' => (jQ k k' && jQ b b') && (jQ o o' && jQ l l') | _ => false
 | .func f a b,y => match y with | .func f' a' b' => fnE f f' && (tV a a' && tV b b') | _ => false
 | .own k x,y => match y with | .own k' x' => jQ k k' && tV x x' | _ => false
 | .dp k p o l,y => match y with | .dp k' p' o' l' => (jQ k k' && decide (p = p')) && (jQ o o' && jQ l l') | _ => false
 | .eK k p i o,y => match y with | .eK k' p' i' o' => (jQ k k' && decide (p = p')) && (jQ i i' && jQ o o') | _ => false
def tV : List AV -> List AV -> Bool
 | [],y => match y with | [] => true | _ => false
 | a :: r,y => match y with | b :: s => vc a b && tV r s | _ => false
end
theorem adU : ∀ {f g : Fn},fnE f g = true -> f = g := by
 intro f g h;cases f <;> cases g <;> simp only [fnE,aX] at h
 rw [bU h]
mutual
theorem aek : ∀ (a b : AV),vc a b = true -> a = b
 | .any,b,h => by cases b <;> first | rfl | (simp [vc] at h; done)
 | .undef,b,h => by cases b <;> first | rfl | (simp [vc] at h; done)
 | .fi,b,h => by cases b <;> first | rfl | (simp [vc] at h; done)
 | .eV,b,h => by cases b <;> first | rfl | (simp [vc] at h; done)
 | .dc,b,h => by cases b <;> first | rfl | (simp [vc] at h; done)
 | .int k n,b,h => by
   cases b <;> first | (simp [vc] at h; done) | skip
   simp only [vc,ab,decide_eq_true_eq] at h;rw [h.1,h.2]
 | .bool x,b,h => by
   cases b <;> first | (simp [vc] at h; done) | skip
   simp only [vc,beq_iff_eq] at h;rw [h]
 | .str _,b,h => by simp [vc] at h
 | .agg x,b,h => by
   cases b <;> first | (simp [vc] at h; done) | skip
   simp only [vc] at h;rw [oh _ _ h]
 | .dW x,b,h => by
   cases b <;> first | (simp [vc] at h; done) | skip
   simp only [vc] at h;rw [oh _ _ h]
 | .cX x,b,h => by
   cases b <;> first | (simp [vc] at h; done) | skip
   simp only [vc] at h;rw [oh _ _ h]
 | .list k x,b,h => by
   cases b <;> first | (simp [vc] at h; done) | skip
   simp only [vc,ab] at h;rw [bU h.1,oh _ _ h.2]
 | .own k x,b,h => by
   cases b <;> first | (simp [vc] at h; done) | skip
   simp only [vc,ab] at h;rw [bU h.1,oh _ _ h.2]
 | .ptr k x,b,h => by
   cases b <;> first | (simp [vc] at h; done) | skip
   simp only [vc,ab] at h;rw [bU h.1,bU h.2]
 | .sl k x y z,b,h => by
   cases b <;> first | (simp [vc] at h; done) | skip
   simp only [vc,ab] at h;rw [bU h.1.1,bU h.1.2,bU h.2.1,bU h.2.2]
 | .func f x y,b,h => by
   cases b <;> first | (simp [vc] at h; done) | skip
   simp only [vc,ab] at h;rw [adU h.1,oh _ _ h.2.1,oh _ _ h.2.2]
 | .dp k x y z,b,h => by
   cases b <;> first | (simp [vc] at h; done) | skip
   simp only [vc,ab,decide_eq_true_eq] at h;rw [bU h.1.1,h.1.2,bU h.2.1,bU h.2.2]
 | .eK k x y z,b,h => by
   cases b <;> first | (simp [vc] at h; done) | skip
   simp only [vc,ab,decide_eq_true_eq] at h;rw [bU h.1.1,h.1.2,bU h.2.1,bU h.2.2]
theorem oh : ∀ (x y : List AV),tV x y = true -> x = y
 | [],y,h => by cases y <;> first | rfl | (simp [tV] at h; done)
 | a :: r,y,h => by
   cases y with
   | nil => simp [tV] at h
   | cons b s =>
     simp only [tV,ab] at h;rw [aek _ _ h.1,oh _ _ h.2]
end
def blkE : Ql -> Ql -> Bool
 | none,y => match y with | none => true | some _ => false
 | some x,y => match y with | some x' => tV x x' | none => false
theorem abq {x y : Ql} (h : blkE x y = true) : x = y := by
 cases x <;> cases y <;> simp only [blkE,aX] at h
 ·rfl
 ·rw [oh _ _ h]
mutual
def ptrs : AV -> List Nat
 | .ptr b _ => [b]
 | .sl _ b _ _ => [b]
 | .agg cs => tK cs
 | .dW cs => tK cs
 | .func _ a b => tK a ++ tK b
 | _ => []
def tK : List AV -> List Nat
 | [] => []
 | x :: r => ptrs x ++ tK r
end
def Ti : Ql -> Bool
 | some cs => !bw cs && (cQ cs).isEmpty
 | none => false
def kO (l : List Nat) : Nat -> Heap -> Heap -> Option (List Nat)
 | _,[],[] => some []
 | b,x :: H,y :: H' => match kO l (b + 1) H H' with
   | some r => if mem b l then some r else if blkE x y then some (if Ti x then r else (b + km) :: r) else none
   | none => none
 | _,_,_ => none
def Pg (l : List Nat) : Option (List Nat) -> Option (List Nat)
 | some r => some (l ++ r)
 | none => none
mutual
def Sj : AV -> AV
 | .dp k p off n => if n = 0 then .list k [] else .dp k p off n
 | .agg cs => .agg (zC cs)
 | v => v
def zC : List AV -> List AV
 | [] => []
 | x :: r => Sj x :: zC r
end
def nu (c : dN) (env : Env) : Kd -> Option (Nat × List AV)
 | .call f args => some (f,di c env args)
 | .gw x args => match bn c env x with
   | .func (.func f) a b => if bw a || bw b then none else some (f,a ++ di c env args ++ b)
   | _ => none
 | _ => none
def getArgs (c : dN) (env : Env) (kd : Kd) : Option (Nat × List AV) :=
 match nu c env kd with
 | some (f,args) => some (f,if c.emp f = true then zC args else args)
 | none => none
def Mm (r : AV) : Bool := clean r && (match r with
 | .own _ _ => true
 | r => !bI r)
def kh (s : St) : List Rt -> Fq
 | [p] => if cz p = true then match aC s p with
   | some _ => .wr (jU p s.env) (some (oV p 0 s.H))
   | none => .all
   else .all
 | _ => .all
def dI (c : dN) (call : Nat -> List AV -> Heap -> Option (AV × Heap)) (kd : Kd) (s : St) : Option (AV × St × Fq) :=
 match getArgs c s.env kd with
 | none => none
 | some (f,args) => match c.fn f with
   | none => none
   | some (md,_) =>
     if md.cl && !md.sh then
      match s6 s args with
      | none => none
      | some ql => match call f ql [] with
        | some (r,_) => if Mm r then some (r,s,if (cQ args ++ Dt args).isEmpty then .no else .rd (cQ args ++ Dt args)) else none
        | none => none
     else match getArgs c (dB (cQ args) s).env kd with
      | none => none
      | some (f1, nC) => if f1 = f then
           if md.sh then
            if fx (nC.map gI) && gj (dB (cQ args) s).H then match call f (nC.map gI) (dB (cQ args) s).H with
              | some (r,H') => if ((aL r).isEmpty && !bI r) && gj H' then some (r,⟨jC jP (dB (cQ args) s).env,H'⟩,if (cQ args).isEmpty then .wr (eC s.env) (Pg (tK nC) (kO (tK nC) 0 (dB (cQ args) s).H H')) else .all) else none
              | none => none
            else none
           else if j5 (nC.map gI) then match call f (nC.map gI) [] with
            | some (r,_) => if pl r then some (r,dB (cQ args) s,if (cQ args).isEmpty then .no else kh s (cQ args)) else none
            | none => none
           else none
        else none

def Uz (k : Nat) (p : Rt) : Option Nat -> AV
 | none => .dW []
 | some m => .dp k p 0 m
def inpL (k : Nat) : Option Nat -> AV
 | none => .dW []
 | some _ => .list k []
def JT (k b : Nat) : Option Nat -> AV
 | none => .dW []
 | some m => .sl k b 0 m
def cellOf : Rt -> List Nat
 | .c b j => [tM b j]
 | _ => []
def xe : List Rt -> List Nat
 | [] => []
 | p :: r => rootOf p ++ xe r
def aeZ (s : St) (p : Rt) : AV -> Option AV
 | .int k n => some (.int k n)
 | .dp k q off len => if q = p then none else match aC s q with
   | some (k',xs) => if k' = k /\ off + len <= xs.length /\ fj xs = true then some (.list k ((xs.drop off).take len)) else none
   | none => none
 | _ => none
def isFn : AV -> Bool
 | .func _ _ _ => true
 | _ => false
def acC : List AV -> Bool
 | [] => false
 | x :: r => isFn x || acC r
def PS (s : St) (g : Nat -> List AV -> List AV -> Option (List AV)) (x : AV) (es : List AV) : Option (AV × St × Fq) := none
def nQ (c : dN) (s : St) : Kd -> Option (Option (AV × St × Fq))
 | .call f (x :: es) => match c.inp f with
   | none => match c.eat f with
     | none => none
     | some g => some (PS s g (bn c s.env x) (di c s.env es))
   | some g => some (match bn c s.env x with
     | .list k [] => if j5 (di c s.env es) = true then match g k [] (di c s.env es) with
       | some (_,res) => some (inpL k res,s,.wr [] (some []))
       | none => none
       else none
     | .dp k p 0 len => match aC s p with
       | some (k',xs) => if k' = k /\ len <= xs.length /\ j5 (di c s.env es) = true then
         match g k (xs.take len) (di c s.env es) with
         | some (ys,res) => some (Uz k p res,setAt s p (.own k (ys ++ xs.drop len)),.wr (rootOf p) (some (nA p)))
         | none => none
         else none
       | none => none
     | .sl k b 0 len => match aH s.H b with
       | some cs => if k = 1 /\ len <= cs.length /\ UU cs = true /\ j5 (di c s.env es) = true then
         match g k (cs.take len) (di c s.env es) with
         | some (ys,res) => some (JT k b res,⟨s.env,s.H.set b (some (aE ys ++ cs.drop len))⟩,.all)
         | none => none
         else none
       | none => none
     | _ => none)
 | _ => none
def Us (c : dN) (call : Nat -> List AV -> Heap -> Option (AV × Heap)) (s : St) (f : Nat) (es : List AV) : AV -> Option (AV × St × Fq)
 | .ptr b 0 => match c.fn f,aH s.H b with
   | some (md,_),some cs => if md.sh = true /\ j5 es = true /\ j5 cs = true then match call f (.ptr 0 0 :: es) [some cs] with
     | some (r,[some cs']) => if pl r = true /\ j5 cs' = true then some (r,⟨s.env,s.H.set b (some cs')⟩,.lw b) else none
     | _ => none
     else none
   | _,_ => none
 | _ => none
def lj (c : dN) (call : Nat -> List AV -> Heap -> Option (AV × Heap)) (s : St) : Kd -> Option (Option (AV × St × Fq))
 | .call f (x :: es) => if c.loc f = true then some (Us c call s f (di c s.env es) (bn c s.env x)) else none
 | _ => none
def Mz (c : dN) (call : Nat -> List AV -> Heap -> Option (AV × Heap)) (f i : Nat) (s1 : St) (xs : List AV) : Option (AV × St × Fq) := none
def qz (c : dN) (call : Nat -> List AV -> Heap -> Option (AV × Heap)) (s : St) : Kd -> Option (Option (AV × St × Fq))
 | .call f es => match c.mov f with
   | some i => some (Mz c call f i (dB (cQ ((di c s.env es).set i .undef)) s) (di c (dB (cQ ((di c s.env es).set i .undef)) s).env es))
   | none => none
 | _ => none
def slAt : Nat -> List AV -> Option (Nat × Nat × Nat × Nat)
 | _,[] => none
 | i,.sl k b off len :: r => if k = 1 then some (i,b,off,len) else slAt (i + 1) r
 | i,_ :: r => slAt (i + 1) r
def Au (c : dN) (call : Nat -> List AV -> Heap -> Option (AV × Heap)) (s : St) (kd : Kd) : Option (AV × St × Fq) := none
def qj (c : dN) (call : Nat -> List AV -> Heap -> Option (AV × Heap)) (kd : Kd) (s : St) : Option (AV × St × Fq) :=
 match dI c call kd s with
 | some x => some x
 | none => Au c call s kd
def fK (c : dN) (call : Nat -> List AV -> Heap -> Option (AV × Heap)) (kd : Kd) (s : St) : Option (AV × St × Fq) :=
 match qz c call s kd with
 | some r => r
 | none => qj c call kd s
def c7 (c : dN) (call : Nat -> List AV -> Heap -> Option (AV × Heap)) (kd : Kd) (s : St) : Option (AV × St × Fq) :=
 match nQ c s kd with
 | some r => r
 | none => match lj c call s kd with
   | some r => r
   | none => fK c call kd s
def ldOK (x v : AV) : Bool := match x with
 | .ptr _ _ => true
 | _ => (aL v).isEmpty
def uL (x v : AV) (ps : List Rt) : Fq := match x,v with
 | .ptr b off,.dp _ (.c d j) _ _ => if d = b /\ j = off then .rc b off else .rd ps
 | _,_ => .rd ps
def Ve : List AV -> Option (List AV)
 | [.own k []] => if 1000 <= k then some [.own (k - 1000) []] else none
 | _ => none
def NH (p : Rt) : AV -> Fq
 | .dp _ q _ _ => if q = p then .wr (rootOf p) (some (nA p)) else .all
 | _ => .all
theorem uY (p : Rt) (x : AV) : NH p x = .all \/ ∃ k off len,x = .dp k p off len /\ NH p x = .wr (rootOf p) (some (nA p)) := by
 unfold NH;split
 ·rename_i k q off len;split
  ·rename_i e;subst e;exact .inr ⟨_,_,_,rfl,rfl⟩
  ·exact .inl rfl
 ·exact .inl rfl
def fo (c : dN) (call : Nat -> List AV -> Heap -> Option (AV × Heap)) (s : St) : Kd -> Option (AV × St × Fq)
 | .new zs => some (.ptr s.H.length 0,⟨s.env,s.H ++ [some zs]⟩,.al s.H.length)
 | .box x => if bm (bn c s.env x).cells then some (.ptr s.H.length 0,⟨s.env,s.H ++ [some (bn c s.env x).cells]⟩,.al s.H.length) else none
 | .dh k n zs ps =>
   let s1 := dB (gg c s.env ps) s
   match n8 c s1.env (rep zs n) ps with
   | some cs => if UU (cs.map gI) then some (.own k (Oq k n (cs.map gI)),s1,if (gg c s.env ps).isEmpty then .no else kh s (gg c s.env ps)) else none
   | none => none
 | .MA k zs l cp => match bn c s.env l,bn c s.env cp with
   | .int _ l,.int _ cp => if 0 <= l /\ l <= cp /\ cp <= (lz : Int) then some (match Ve zs with
     | some z => (.sl k s.H.length 0 l.toNat,⟨s.env,s.H ++ [some (rep z l.toNat)]⟩,.al s.H.length)
     | none => (.own k (List.replicate l.toNat (el (zs.map gI))),s,.no)) else none
   | _,_ => none
 | .ld ag x => match xy s ag (bn c s.env x) with
   | some (v,ps) => if ldOK (bn c s.env x) v then some (v,s,uL (bn c s.env x) v ps) else none
   | none => none
 | .st k a v => match bn c s.env a with
   | .eK _ _ _ _ =>
     let s1 := dB (aL (bn c s.env v)) s
     match Og s1 k (bn c s1.env a) (bn c s1.env v) with
     | some (s',f) => some (.undef,s',if (aL (bn c s.env v)).isEmpty then f else .all)
     | none => none
   | a => match Og s k a (bn c s.env v) with
     | some (s',f) => some (.undef,s',f)
     | none => none
 | .Td _ _ x => match bn c s.env x with
   | .own _ [] => some (.undef,s,.no)
   | .list _ [] => some (.undef,s,.no)
   | _ => none
 | .call f args => c7 c call (.call f args) s
 | .gw x args => c7 c call (.gw x args) s
 | .app k x y => match cont s k (bn c s.env y) with
   | some ys => if bm (aE ys) = true then match bn c s.env x with
     | .own _ [] => if ys.length <= lz then some (.own k ys,s,.rd (aL (bn c s.env y))) else none
     | .dp k' p 0 len => match aC s p with
       | some (vO,xs) => if k' = k /\ vO = k /\ len <= xs.length /\ len + ys.length <= lz then some (.own k (xs.take len ++ ys),setAt (bW (sw p) s) p .any,.wr (jU p s.env ++ marks (xe (aL (bn c s.env y)))) (some (cellOf p ++ oV p 0 s.H))) else none
       | none => none
     | _ => none
     else none
   | none => none
 | .copy k x y => match bn c s.env x with
   | .dp k' p off n => if n = 0 then (match cont s k (bn c s.env y) with
     | some ys => if k' = k /\ bm (aE ys) = true then some (.int .i64 0,s,.all) else none
     | none => none) else match aC s p,cont s k (bn c s.env y) with
     | some (vO,xs),some ys => if k' = k /\ vO = k /\ off + n <= xs.length /\ bm (aE ys) = true then some (.int .i64 (min ys.length n : Nat),setAt s p (.own k (jf xs off (ys.take (min ys.length n)))),NH p (bn c s.env y)) else none
     | _,_ => none
   | _ => none
 | .I8 n x hi => match bn c s.env x with
   | .ptr b off => match xU c s.env n n hi,aH s.H b with
     | some m,some cs => if off + n <= cs.length then some (.sl 1 b off m,s,.rd [.c b 1]) else none
     | _,_ => none
   | _ => match Pb c s.env (.I8 n x hi) with
     | some v => some (v,s,.no)
     | none => none
 | kd => match Pb c s.env kd with
   | some v => some (v,s,.no)
   | none => none

def bJ (e : Env) (d : Option Nat) (fl : Fq) : Fq :=
 match d with
 | none => fl
 | some d => if bI (get e d) then .sp else if (aL (get e d)).isEmpty then fl else match fl with
   | .no => .bo []
   | .rd ps => .bo ps
   | .rc b _ => .bo [.c b 0]
   | _ => .sp
def zV (e : Env) (d : Option Nat) (v : AV) (s : St) (fl : Fq) : Option (St × Fq) :=
 match wQ s d v with
 | some s' => some (s',bJ e d fl)
 | none => none
def p8 (c : dN) (call : Nat -> List AV -> Heap -> Option (AV × Heap)) (s : St) (o : O) : Option (St × Fq) :=
 match o.guard with
 | none => match fo c call s o.kd with
   | some (v,s',fl) => zV s.env o.dst v s' fl
   | none => none
 | some (g,want) => match get s.env g with
   | .bool b => if b = want then
     match fo c call s o.kd with
     | some (v,s',fl) => zV s.env o.dst v s' fl
     | none => none
     else zV s.env o.dst .undef s .no
   | .undef => zV s.env o.dst .undef s .no
   | _ => none
def kL (c : dN) (call : Nat -> List AV -> Heap -> Option (AV × Heap)) : List O -> St -> Option (St × List Fq)
 | [],s => some (s,[])
 | o :: r,s => match p8 c call s o with
   | some (s',fl) => match kL c call r s' with
     | some (ZG,nU) => some (ZG,fl :: nU)
     | none => none
   | none => none

def still : Kd -> Bool
 | .mv _ | .pick _ _ _ | .build _ _ | .kP _ | .bin _ _ _ | .eq _ _ _ _ | .un _ _ | .S7 _ _ | .GC _ _ _ | .Av _ _ _ _ | .dt _ _ | .UW _ _ _ | .gq _ _ _ | .SJ _ _ _ _ | .ix _ _ _ _ _ | .ext _ _ | .Ux _ _ | .len _ | .min _ | .max _ => true
 | .MA _ zs _ _ => (Ve zs).isNone
 | _ => false
def gh (n : Nat) : List Rt -> Bool
 | [] => true
 | .c b _ :: r => decide (b < n) && gh n r
 | _ :: r => gh n r
def gk (d : Nat) : List Rt -> Bool
 | [] => true
 | .s i :: r => decide (i ≠ d) && gk d r
 | .sc i _ :: r => decide (i ≠ d) && gk d r
 | .c _ _ :: r => gk d r
def xP (d : Option Nat) : Fq -> Bool
 | .rd ps => match d with
   | some d => gk d ps
   | none => true
 | .bo ps => match d with
   | some d => gk d ps
   | none => true
 | _ => true
def pk (b : Nat) : List Rt -> Bool
 | [] => true
 | .c d _ :: r => decide (d ≠ b) && pk b r
 | _ :: r => pk b r
def Fq.ok : Fq -> Fq -> Bool
 | .no,.no => true
 | .no,.rd _ => true
 | .no,.al _ => true
 | .no,.wr _ _ => true
 | .rd _,.no => true
 | .al _,.no => true
 | .wr _ _,.no => true
 | .rd _,.rd _ => true
 | .rd _,.wr _ _ => true
 | .wr _ _,.rd _ => true
 | .al n,.rd ps => gh n ps
 | .rd ps,.al n => gh n ps
 | .al n,.bo ps => gh n ps
 | .bo ps,.al n => gh n ps
 | .no,.bo _ => true
 | .bo _,.no => true
 | .rd _,.bo _ => true
 | .bo _,.rd _ => true
 | .bo _,.bo _ => true
 | .no,.rc _ _ => true
 | .rc _ _,.no => true
 | .rc _ _,.rd _ => true
 | .rd _,.rc _ _ => true
 | .rc _ _,.rc _ _ => true
 | .rc _ _,.bo _ => true
 | .bo _,.rc _ _ => true
 | .rc _ _,.wr _ _ => true
 | .wr _ _,.rc _ _ => true
 | .al n,.rc b _ => decide (b < n)
 | .rc b _,.al n => decide (b < n)
 | .no,.lw _ => true
 | .lw _,.no => true
 | .rd ps,.lw b => pk b ps
 | .lw b,.rd ps => pk b ps
 | .rc d _,.lw b => decide (d ≠ b)
 | .lw b,.rc d _ => decide (d ≠ b)
 | .al n,.lw b => decide (b < n)
 | .lw b,.al n => decide (b < n)
 | _,_ => false
def E1 (sl : List Nat) : List Nat -> Bool
 | [] => true
 | i :: r => !mem i sl && E1 sl r
def nV (sl : List Nat) (bs : Option (List Nat)) : List Rt -> Bool
 | [] => true
 | .s i :: r => (!mem i sl && !mem (i + km) sl) && nV sl bs r
 | .sc i _ :: r => (!mem i sl && !mem (i + km) sl) && nV sl bs r
 | .c b j :: r => (match bs with
   | some bs => !lv b bs && (decide (j ≠ 0) || !mem (b + km) bs)
   | none => false) && nV sl bs r
def Kf (bs : Option (List Nat)) (b j : Nat) : Bool := match bs with
 | some bs => !mem b bs && (!mem (b + km) bs && !mem (tM b j) bs)
 | none => false
def G7 (f : Fq) (y : O) (g : Fq) : Bool :=
 match f with
 | .wr sl bs => E1 sl y.reads && (match y.dst with
   | some d => !mem d sl && !mem (d + km) sl
   | none => true) && (match g with
   | .rd ps => nV sl bs ps
   | .rc b j => Kf bs b j
   | _ => true)
 | _ => true
def im (x : O) (f : Fq) (y : O) (g : Fq) : Bool := f.ok g && (xP x.dst g && xP y.dst f) && (G7 f y g && G7 g x f)
def zy (os : List O) (nU : List Fq) : List (Nat × Nat) -> Bool
 | [] => true
 | (i,j) :: r => (decide (i = j) || im (os.getD i ⟨none,none,.min []⟩) (nU.getD i .all) (os.getD j ⟨none,none,.min []⟩) (nU.getD j .all)) && zy os nU r

def m5 : Fq -> Bool
 | .no | .rc _ _ | .rd _ | .al _ | .bo _ | .wr _ _ | .lw _ => true
 | _ => false
def Gv (un : List (Nat × Nat)) : Nat -> List Fq -> Bool
 | _,[] => true
 | k,f :: r => (m5 f || ju k k un) && Gv un (k + 1) r
def IV (os : List O) (nU : List Fq) (un : List (Nat × Nat)) : Bool := Gv un 0 nU && zy os nU un

/-! Results -/
def TV (c : dN) (s : St) : Rv -> Option AV
 | .t i => some (bn c s.env (.t i))
 | .c i ag => match xy s ag (bn c s.env (.t i)) with
   | some (v,_) => some v
   | none => none
def nZ (c : dN) (s : St) : List Rv -> Option (List AV)
 | [] => some []
 | r :: rs => match TV c s r,nZ c s rs with
   | some v,some vs => some (v :: vs)
   | _,_ => none
def Xl (base : Nat) : Rt -> Bool
 | .c b _ => decide (base <= b)
 | _ => true
def Gu (base : Nat) : List Rt -> Bool
 | [] => true
 | p :: r => Xl base p && (r.all fun q => decide (q ≠ p)) && Gu base r
def VM (s : St) : AV -> Option AV
 | .dp k p 0 len => match aC s p with
   | some (k',xs) => if k' = k /\ len <= xs.length then some (.own k (xs.take len)) else none
   | none => none
 | .own k [] => some (.own k [])
 | x => if pl x then some x else none
def VN (s : St) (x : AV) : Option AV := VM s x
def mS (base : Nat) (s : St) (v : AV) : Option (AV × Heap) :=
 match get s.env ff with
 | .any =>
   let s2 := dB (aL v) ⟨put s.env ff v,s.H⟩
   let r := get s2.env ff
   if js r then some (r,trim base [(0,r)] s2.H.length (ft oq s2.H)) else none
 | _ => none
def noB : AV -> AV
 | .dp _ _ _ _ => .any
 | .own _ _ => .any
 | x => x
def Tl (s : St) : Nat -> List Rt -> List AV -> Option (List AV × Heap)
 | _,_,[] => some ([],[])
 | n,used,.dp k (.s i) 0 len :: r => match aC s (.s i) with
   | some (k',xs) => if k' = k /\ len = xs.length /\ zM (.s i) used = false then
     if len = 0 then match Tl s n used r with
      | some (ys,hs) => some (.list k [] :: ys,hs)
      | none => none
     else match Tl s (n + 1) (.s i :: used) r with
      | some (ys,hs) => some (.sl k n 0 len :: ys,some (aE xs) :: hs)
      | none => none
     else none
   | none => none
 | n,used,x :: r => if js x = true then match Tl s n used r with
   | some (ys,hs) => some (x :: ys,hs)
   | none => none
   else none
def finX (base : Nat) (s : St) (v : AV) : Option (AV × Heap) := none
def aK (md : Md) (base : Nat) (s : St) (v : AV) : Option (AV × Heap) :=
 if md.sh then (if md.ow then finX base s v else mS base s v)
 else if md.ow then
  if Gu base (aL v) then match VN s v with
   | some r => some (r,[])
   | none => none
  else none
 else match PO s v with
  | some r => some (r,[])
  | none => none
def JD (c : dN) (f : Nat) (args : List AV) (H : Heap) : Option (AV × Heap) :=
 match c.orc f with
 | some g => g args H
 | none => none
def kX (c : dN) (run : Nat -> C -> St -> Option (Ex × St)) (f : Nat) (args : List AV) (H : Heap) : Option (AV × Heap) :=
 match JD c f args H with
 | some x => some x
 | none => match c.fn f with
   | none => none
   | some (md,fn) => if args.length <= fn.n then
     match run H.length fn.body ⟨dH 0 args,H⟩ with
     | some (.ret,s) => match nZ c s fn.res with
       | some vs => aK md H.length s (m7 vs)
       | none => none
     | some (.normal,s) => match nZ c s fn.res with
       | some vs => aK md H.length s (m7 vs)
       | none => none
     | _ => none
     else none
def cq (c : dN) : Nat -> Nat -> C -> St -> Option (Ex × St)
 | 0,_,_,_ => none
 | n + 1,base,cd,s => match cd with
   | .skip => some (.normal,s)
   | .ret => some (.ret,s)
   | .exit id => some (.exit id,s)
   | .aO os dr un keep => match kL c (kX c (cq c n)) os s with
     | some (s',nU) => if dr = false \/ IV os nU un = true then (match PR base keep s' with
       | some s2 => some (.normal,s2)
       | none => none) else none
     | none => none
   | .seq a b => match cq c n base a s with
     | some (.normal,s') => cq c n base b s'
     | r => r
   | .cond x a b => match bn c s.env x with
     | .bool t => if t then cq c n base a s else cq c n base b s
     | _ => none
   | .aH id b => match cq c n base b s with
     | some (.exit id',s') => if id' = id then some (.normal,s') else some (.exit id',s')
     | r => r
   | .loop b => match cq c n base b s with
     | some (.normal,s') => cq c n base (.loop b) s'
     | r => r
def n9 (c : dN) (n : Nat) (f : Nat) (args : List AV) (H : Heap) : Option (AV × Heap) := kX c (cq c n) f args H

/-! The code for the older machine: what is empty and owned is nil -/
def dnV : AV -> AV
 | .own _ [] => .dc
 | v => v
def s7 : List AV -> List AV
 | [] => []
 | x :: r => dnV x :: s7 r
def kV : E -> E
 | .k x => .k (dnV x)
 | x => x
def Bn : List E -> List E
 | [] => []
 | x :: r => kV x :: Bn r
def dnO : Option E -> Option E
 | some x => some (kV x)
 | none => none
def NF : List (Nat × Nat × E) -> List (Nat × Nat × E)
 | [] => []
 | (i,j,x) :: r => (i,j,kV x) :: NF r
def kU : Kd -> Kd
 | .mv x => .mv (kV x)
 | .pick c a b => .pick (kV c) (kV a) (kV b)
 | .new zs => .new (s7 zs)
 | .box x => .box (kV x)
 | .build zs ps => .build (s7 zs) (NF ps)
 | .dh k n zs ps => .dh k n (s7 zs) (NF ps)
 | .ld ag x => .ld ag (kV x)
 | .st k a v => .st k (kV a) (kV v)
 | .kP x => .kP (kV x)
 | .bin op x y => .bin op (kV x) (kV y)
 | .eq ng t x y => .eq ng t (kV x) (kV y)
 | .un op x => .un op (kV x)
 | .S7 k x => .S7 k (kV x)
 | .GC fn a b => .GC fn (Bn a) (Bn b)
 | .MA k zs l cp => .MA k (s7 zs) (kV l) (kV cp)
 | .Av k x lo hi => .Av k (kV x) (dnO lo) (dnO hi)
 | .dt off x => .dt off (kV x)
 | .I8 n x hi => .I8 n (kV x) (dnO hi)
 | .UW off ag x => .UW off ag (kV x)
 | .gq k x i => .gq k (kV x) (kV i)
 | .SJ n k x i => .SJ n k (kV x) (kV i)
 | .ix n k ag x i => .ix n k ag (kV x) (kV i)
 | .ext i x => .ext i (kV x)
 | .call f args => .call f (Bn args)
 | .gw x args => .gw (kV x) (Bn args)
 | .Ux tab i => .Ux tab (kV i)
 | .Td k zs x => .Td k (s7 zs) (kV x)
 | .len x => .len (kV x)
 | .app k x y => .app k (kV x) (kV y)
 | .min xs => .min (Bn xs)
 | .max xs => .max (Bn xs)
 | .copy k x y => .copy k (kV x) (kV y)
 | .bad => .bad
def NG (o : O) : O := ⟨o.dst,o.guard,kU o.kd⟩
def kE : E -> Bool
 | .k x => (aL x).isEmpty
 | _ => true
def kEs : List E -> Bool
 | [] => true
 | x :: r => kE x && kEs r
def kEo : Option E -> Bool
 | some x => kE x
 | none => true
def kPs : List (Nat × Nat × E) -> Bool
 | [] => true
 | p :: r => kE p.2.2 && kPs r
def wT : Kd -> Bool
 | .mv x | .box x | .ld _ x | .kP x | .un _ x | .S7 _ x | .dt _ x | .UW _ _ x | .ext _ x | .len x | .Ux _ x | .Td _ _ x => kE x
 | .pick c a b => kE c && (kE a && kE b)
 | .new _ => true
 | .bad => true
 | .build zs ps => (cQ zs).isEmpty && kPs ps
 | .dh _ _ zs ps => (cQ zs).isEmpty && kPs ps
 | .st _ x y | .bin _ x y | .eq _ _ x y | .MA _ _ x y | .gq _ x y | .SJ _ _ x y | .ix _ _ _ x y | .app _ x y | .copy _ x y => kE x && kE y
 | .GC _ a b => kEs a && kEs b
 | .Av _ x lo hi => kE x && (kEo lo && kEo hi)
 | .I8 _ x hi => kE x && kEo hi
 | .call _ xs | .min xs | .max xs => kEs xs
 | .gw x xs => kE x && kEs xs
def FY (un : List (Nat × Nat)) (i j : Nat) (x : O) (ys : List Nat) (q : O) : Bool := mem i ys || ((!ju i i un && !ju j j un) && (ja x q && ((still x.kd && still q.kd) || ju i j un)))
def ta (un : List (Nat × Nat)) (j : Nat) (ys : List Nat) (q : O) : Nat -> List O -> Bool
 | _,[] => true
 | i,x :: r => FY un i j x ys q && ta un j ys q (i + 1) r
def mV (un : List (Nat × Nat)) (Ad : List (List Nat)) (seen : List O) : List Oper -> List O -> Bool
 | y :: r,q :: s => wT q.kd && ((direct y).all fun i => decide (i < seen.length)) && ta un seen.length (Gt Ad y) q 0 seen && mV un (Ad ++ [Gt Ad y]) (seen ++ [q]) r s
 | _,_ => true
def pH (P : Program) (N : Nat) (ops : Array Oper) : List Oper -> List O -> Bool
 | [],[] => true
 | o :: r,q :: s => J9 P N ops o (NG q) && pH P N ops r s
 | _,_ => false
def G0 (P : Program) (N : Nat) : Code -> C -> Bool
 | .skip,.skip => true
 | .ret,.ret => true
 | .exit i,.exit j => decide (i = j)
 | .region _ ops d,.aO os dr un _ => decide (d = dr) && pH P N ops ops.toList os && (!dr || mV un [] [] ops.toList os)
 | .seq a b,.seq x y => G0 P N a x && G0 P N b y
 | .cond c a b,.cond c' x y => cN c (kV c') && G0 P N a x && G0 P N b y
 | .block i b,.aH j x => decide (i = j) && G0 P N b x
 | .loop b,.loop x => G0 P N b x
 | .label _,.skip => true
 | .scope b,.seq .skip x => G0 P N b x
 | _,_ => false
def cj (P : Program) (fn : Func) (q : fO) : Bool :=
 decide (fn.ntmps = q.n) && decide (fn.ntmps <= ff) && !(fn.name == "runtime.NumGoroutine") && Cf P fn.results.toList q.res && (match fn.body with
  | some c => G0 P q.n c q.body
  | none => false)
structure fk (P : Program) (c : dN) : Prop where
 mixed : P.follows .mixedOrders = true
 fn : ∀ f m q,c.fn f = some (m,q) -> ∃ fn,P.funcs[f]? = some fn /\ cj P fn q = true
end Go.Bm
