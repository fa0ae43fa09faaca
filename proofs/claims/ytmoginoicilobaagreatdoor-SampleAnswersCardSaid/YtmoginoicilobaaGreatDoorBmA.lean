/- The machine by value: a slice that is owned is a value, too; others that refer to it borrow it from its place. -/
import Derived.Test.YtmoginoicilobaaGreatDoorMa
set_option linter.unusedVariables false

open Bool renaming and_eq_true → aa, false_eq_true → bO
open Nat renaming beq → kI, eq_of_beq_eq_true → bW
namespace Go.Bm
open Go.Am

structure Md where
 sh : Bool
 ow : Bool
 cl : Bool
 deriving Inhabited
structure dR where
 fn : Nat -> Option (Md × eB)
 gl : Nat -> List AV
 orc : Nat -> Option (List AV -> Heap -> Option (AV × Heap))
 inp : Nat -> Option (Nat -> List AV -> List AV -> Option (List AV × Option Nat))
 eat : Nat -> Option (Nat -> List AV -> List AV -> Option (List AV)) := fun _ => none
 loc : Nat -> Bool := fun _ => false
 emp : Nat -> Bool := fun _ => false
 mov : Nat -> Option Nat := fun _ => none

def eL : Nat := 1000000
def kZ : Nat := 500000
def xm : Nat := 1000000
def kB (b j : Nat) : Nat := b + (j + 1) * xm
def vt (b x : Nat) : Bool := decide (xm <= x) && (decide (b <= x) && decide ((x - b) % xm = 0))
def mR (b : Nat) : List Nat -> Bool
 | [] => false
 | x :: r => decide (x = b) || (vt b x || mR b r)
def marks : List Nat -> List Nat
 | [] => []
 | i :: r => (i + kZ) :: marks r

/-! Values -/
mutual
def cn (g : AV -> AV) : AV -> AV
 | .c8 k p off len => g (.c8 k p off len)
 | .ez k p i off => g (.ez k p i off)
 | .agg cs => .agg (cV g cs)
 | .dp cs => .dp (cV g cs)
 | .func f a b => .func f (cV g a) (cV g b)
 | .any => .any | .undef => .undef | .eP => .eP | .eT => .eT | .dn => .dn
 | .int k n => .int k n | .bool b => .bool b | .str s => .str s
 | .list k xs => .list k xs | .dh cs => .dh cs | .ptr b off => .ptr b off | .sl k b off len => .sl k b off len
 | .own k xs => .own k xs
def cV (g : AV -> AV) : List AV -> List AV
 | [] => []
 | x :: r => cn g x :: cV g r
end
mutual
def aK : AV -> List Rt
 | .c8 _ p _ _ => [p]
 | .ez _ p _ _ => [p]
 | .agg cs => cY cs
 | .dp cs => cY cs
 | .func _ a b => cY a ++ cY b
 | _ => []
def cY : List AV -> List Rt
 | [] => []
 | x :: r => aK x ++ cY r
end
mutual
def pl : AV -> Bool
 | .own _ _ | .c8 _ _ _ _ | .ez _ _ _ _ | .ptr _ _ | .sl _ _ _ _ => false
 | .agg cs => df cs
 | .dp cs => df cs
 | .func _ a b => df a && df b
 | _ => true
def df : List AV -> Bool
 | [] => true
 | x :: r => pl x && df r
end
def fz (x : AV) : Bool := x.leaf && pl x
def U9 : List AV -> Bool
 | [] => true
 | x :: r => fz x && U9 r
def bI : List AV -> Bool
 | [] => false
 | .own _ _ :: _ => true
 | _ :: r => bI r
def bJ : AV -> Bool
 | .own _ _ => true
 | .agg cs => bI cs
 | _ => false
mutual
def clean : AV -> Bool
 | .list _ xs => xs.isEmpty
 | .dh _ | .any | .func _ _ _ | .c8 _ _ _ _ | .ez _ _ _ _ | .ptr _ _ | .sl _ _ _ _ => false
 | .own _ xs => fm xs
 | .agg cs => fm cs
 | .dp cs => fm cs
 | _ => true
def fm : List AV -> Bool
 | [] => true
 | x :: r => clean x && fm r
end

/-! Places -/
def dZ (f : Nat -> Rt) : Nat -> List AV -> List AV
 | _,[] => []
 | j,.own k xs :: r => .c8 k (f j) 0 xs.length :: dZ f (j + 1) r
 | j,x :: r => x :: dZ f (j + 1) r
def ep (i : Nat) : AV -> AV
 | .own k xs => .c8 k (.s i) 0 xs.length
 | .agg cs => .agg (dZ (.sc i) 0 cs)
 | v => v
def at_ (s : St) : Rt -> Option AV
 | .s i => some (get s.env i)
 | .sc i j => match get s.env i with
   | .agg cs => cs[j]?
   | _ => none
 | .c b j => match aJ s.H b with
   | some cs => cs[j]?
   | none => none
def av (s : St) (p : Rt) : Option (Nat × List AV) :=
 match at_ s p with
 | some (.own k xs) => some (k,xs)
 | _ => none
def setAt (s : St) (p : Rt) (v : AV) : St :=
 match p with
 | .s i => ⟨put s.env i v,s.H⟩
 | .sc i j => match get s.env i with
   | .agg cs => ⟨put s.env i (.agg (cs.set j v)),s.H⟩
   | _ => s
 | .c b j => match aJ s.H b with
   | some cs => ⟨s.env,s.H.set b (some (cs.set j v))⟩
   | none => s
def kf (g : AV -> AV) : Env -> Env
 | [] => []
 | (i,v) :: r => (i,cn g v) :: kf g r
def fL (g : AV -> AV) : Heap -> Heap
 | [] => []
 | none :: r => none :: fL g r
 | some cs :: r => some (cV g cs) :: fL g r
def bY (g : AV -> AV) (s : St) : St := ⟨kf g s.env,fL g s.H⟩

def sw (p : Rt) : AV -> AV
 | .c8 k q off len => if q = p then .any else .c8 k q off len
 | .ez k q i off => if q = p then .any else .ez k q i off
 | v => v
def rt (p q : Rt) (n : Nat) : AV -> AV
 | .c8 k r off len => if r = p then (if off + len <= n then .c8 k q off len else .any) else .c8 k r off len
 | .ez k r i off => if r = p then (if i < n then .ez k q i off else .any) else .ez k r i off
 | v => v
def fb (p : Rt) (k : Nat) (xs : List AV) : AV -> AV
 | .c8 k' q off len => if q = p then (if k' = k /\ off + len <= xs.length then .list k ((xs.drop off).take len) else .any) else .c8 k' q off len
 | .ez k' q i off => if q = p then (if k' = k then match xs[i]? with
   | some x => .dh (x.cells.drop off)
   | none => .any
   else .any) else .ez k' q i off
 | v => v
def F7 (s : St) (p : Rt) : St :=
 match av s p with
 | some (k,xs) => setAt (bY (fb p k xs) s) p (.list k xs)
 | none => s
def dC : List Rt -> St -> St
 | [],s => s
 | p :: r,s => dC r (F7 s p)

def CR (p : Rt) (q : Rt) : AV -> Option Rt
 | .c8 _ r _ _ => if r = p then some q else none
 | _ => none
def BC (p : Rt) (f : Nat -> Rt) : Nat -> List AV -> Option Rt
 | _,[] => none
 | j,x :: r => match CR p (f j) x with
   | some y => some y
   | none => BC p f (j + 1) r
def borS (p : Rt) (i : Nat) : AV -> Option Rt
 | .agg cs => BC p (.sc i) 0 cs
 | v => CR p (.s i) v
def borE (p : Rt) : Env -> Option Rt
 | [] => none
 | (i,v) :: r => match borS p i v with
   | some y => some y
   | none => borE p r
def ZY (p : Rt) : Nat -> Heap -> Option Rt
 | _,[] => none
 | b,none :: r => ZY p (b + 1) r
 | b,some cs :: r => match BC p (.c b) 0 cs with
   | some y => some y
   | none => ZY p (b + 1) r
def NA (p : Rt) (s : St) : Option Rt :=
 match borS p eL (get s.env eL) with
 | some y => some y
 | none => match borE p s.env with
   | some y => some y
   | none => ZY p 0 s.H
def rel (s : St) (p : Rt) : St :=
 match av s p with
 | none => s
 | some (k,xs) => match NA p s with
   | none => setAt (bY (sw p) s) p .any
   | some q => match at_ s q with
     | some (.c8 _ r 0 len) => if r = p then setAt (setAt (bY (rt p q len) s) p .any) q (.own k (xs.take len)) else F7 s p
     | _ => F7 s p
def Hb (i : Nat) : Nat -> List AV -> St -> St
 | _,[],s => s
 | j,.own _ _ :: r,s => Hb i (j + 1) r (rel s (.sc i j))
 | j,_ :: r,s => Hb i (j + 1) r s
def z8 (s : St) (i : Nat) : St :=
 match get s.env i with
 | .own _ _ => rel s (.s i)
 | .agg cs => Hb i 0 cs s
 | _ => s
def nG (keep : List Nat) : Env -> St -> St
 | [],s => s
 | (i,_) :: r,s => nG keep r (if mem i keep then s else z8 s i)
def qD (keep : List Nat) : Env -> Bool
 | [] => false
 | (i,v) :: r => (!mem i keep && bJ v) || qD keep r

def jU (i d : Nat) : Rt -> Rt
 | .s j => if j = i then .s d else .s j
 | .sc j l => if j = i then .sc d l else .sc j l
 | .c b j => .c b j
def UF (i d : Nat) : AV -> AV
 | .c8 k p off len => .c8 k (jU i d p) off len
 | .ez k p l off => .ez k (jU i d p) l off
 | v => v
def KY (s : St) (d : Nat) : St :=
 let s1 := bY (UF eL d) s
 ⟨put (put s1.env eL .any) d (get s1.env eL),s1.H⟩
def vO (f : Rt -> Bool) : List Rt -> Bool
 | [] => false
 | p :: r => f p || vO f r
def GK (f : Rt -> Bool) : Env -> Bool
 | [] => false
 | (_,v) :: r => vO f (aK v) || GK f r
def GI (f : Rt -> Bool) : Heap -> Bool
 | [] => false
 | none :: r => GI f r
 | some cs :: r => vO f (cY cs) || GI f r
def GL (f : Rt -> Bool) (s : St) (v : AV) : Bool := vO f (aK v) || (GK f s.env || GI f s.H)
def bt (d : Nat) : Rt -> Bool
 | .s i => decide (i = d)
 | .sc i _ => decide (i = d)
 | .c _ _ => false
def cJ (b off k : Nat) : Rt -> Bool
 | .c c j => decide (c = b) && (decide (off <= j) && decide (j < off + k))
 | _ => false
def LQ (s : St) (d : Nat) (v : AV) : Bool := bJ (get s.env d) && GL (bt d) s v
def Us (s : St) (d : Nat) (v : AV) : Option St :=
 if LQ s d v then
  match get s.env eL with
  | .any => if bJ (get (z8 ⟨put s.env eL v,s.H⟩ d).env d) then none else some (KY (z8 ⟨put s.env eL v,s.H⟩ d) d)
  | _ => none
 else some ⟨put s.env d v,s.H⟩
def w9 (s : St) (d : Option Nat) (v : AV) : Option St :=
 match d with
 | some d => Us s d v
 | none => some s

/-! Boxes that nobody refers to -/
mutual
def rN (b : Nat) : AV -> Bool
 | .ptr c _ => decide (c ≠ b)
 | .sl _ c _ _ => decide (c ≠ b)
 | .c8 _ (.c d _) _ _ => decide (d ≠ b)
 | .ez _ (.c d _) _ _ => decide (d ≠ b)
 | .agg cs => jO b cs
 | .dp cs => jO b cs
 | .func _ x y => jO b x && jO b y
 | _ => true
def jO (b : Nat) : List AV -> Bool
 | [] => true
 | x :: r => rN b x && jO b r
end
def A3 (b : Nat) : Env -> Bool
 | [] => true
 | (_,v) :: r => rN b v && A3 b r
def vf (b : Nat) : Heap -> Bool
 | [] => true
 | none :: r => vf b r
 | some cs :: r => jO b cs && vf b r
def trim (base : Nat) (env : Env) : Nat -> Heap -> Heap
 | 0,H => H
 | n + 1,H => if base <= n /\ H.length = n + 1 /\ A3 n env = true /\ vf n (H.take n) = true then trim base env n (H.take n) else H
def ZA (base : Nat) (keep : List Nat) (s : St) : St := ⟨pI keep s.env,trim base (pI keep s.env) s.H.length s.H⟩
def PZ (base : Nat) (keep : List Nat) (s : St) : Option St :=
 if qD keep s.env then
  if qD keep (nG keep s.env s).env then none else some (ZA base keep (nG keep s.env s))
 else some (ZA base keep s)

/-! Operations -/
def bp (c : dR) (env : Env) : E -> AV
 | .t i => ep i (get env i)
 | .k x => x
 | .g i => .dh (c.gl i)
def dt (c : dR) (env : Env) : List E -> List AV
 | [] => []
 | x :: r => bp c env x :: dt c env r
def cont (s : St) (k : Nat) : AV -> Option (List AV)
 | .list k' xs => if k' = k then some xs else none
 | .own _ [] => some []
 | .c8 k' p off len => match av s p with
   | some (wA,xs) => if k' = k /\ wA = k /\ off + len <= xs.length then some ((xs.drop off).take len) else none
   | none => none
 | _ => none
def Va : AV -> Option AV
 | .own k xs => some (.list k xs)
 | x => if fz x then some x else none
def CN : List AV -> Option (List AV)
 | [] => some []
 | x :: r => match Va x,CN r with
   | some y,some ys => some (y :: ys)
   | _,_ => none
def Nv (s : St) (k b off len : Nat) : Option AV :=
 match aJ s.H b with
 | some cs => if k = 1 /\ off + len <= cs.length then match CN ((cs.drop off).take len) with
   | some ys => some (.list 1 ys)
   | none => none
   else none
 | none => none
mutual
def kY (sh : Bool) (s : St) : AV -> Option AV
 | .c8 k p off len => match av s p with
   | some (k',xs) => if k' = k /\ off + len <= xs.length then some (.list k ((xs.drop off).take len)) else none
   | none => none
 | .own _ _ => none
 | .agg cs => match Dc sh s cs with
   | some ds => some (.agg ds)
   | none => none
 | .dp cs => match Dc sh s cs with
   | some ds => some (.dp ds)
   | none => none
 | .func f a b => match Dc sh s a,Dc sh s b with
   | some a',some b' => some (.func f a' b')
   | _,_ => none
 | .ptr b off => if sh then some (.ptr b off) else none
 | .ez _ _ _ _ => none
 | .sl _ _ _ _ => none
 | .any => none
 | x => some x
def Dc (sh : Bool) (s : St) : List AV -> Option (List AV)
 | [] => some []
 | x :: r => match kY sh s x,Dc sh s r with
   | some y,some ys => some (y :: ys)
   | _,_ => none
end
mutual
def PX (s : St) : AV -> Option AV
 | .sl k b off len => Nv s k b off len
 | .dp cs => match I2 s cs with
   | some ds => some (.dp ds)
   | none => none
 | x => kY false s x
def I2 (s : St) : List AV -> Option (List AV)
 | [] => some []
 | x :: r => match PX s x,I2 s r with
   | some y,some ys => some (y :: ys)
   | _,_ => none
end
def iP : AV -> AV
 | .own k [] => .list k []
 | v => v
def sT (s : St) : List AV -> Option (List AV)
 | [] => some []
 | .own k [] :: r => match sT s r with
   | some ys => some (.list k [] :: ys)
   | none => none
 | .sl k b off len :: r => match Nv s k b off len,sT s r with
   | some y,some ys => some (y :: ys)
   | _,_ => none
 | x :: r => match kY false s x,sT s r with
   | some y,some ys => some (y :: ys)
   | _,_ => none
def DN : List AV -> List Rt
 | [] => []
 | .sl _ b _ _ :: r => .c b 1 :: DN r
 | _ :: r => DN r
mutual
def eO : AV -> Bool
 | .own _ _ | .c8 _ _ _ _ | .ez _ _ _ _ => false
 | .agg cs => cI cs
 | .dp cs => cI cs
 | .func _ a b => cI a && cI b
 | _ => true
def cI : List AV -> Bool
 | [] => true
 | x :: r => eO x && cI r
end
def PJ : AV -> Option Nat
 | .dn => some 0
 | .own _ [] => some 0
 | .list _ xs => some xs.length
 | .c8 _ _ _ len => some len
 | .sl _ _ _ len => some len
 | _ => none
def yC (c : dR) (env : Env) (dflt hi : Nat) : Option E -> Option Nat
 | none => some dflt
 | some x => bnd (bp c env x) hi
def oT (c : dR) (env : Env) : List AV -> List (Nat × Nat × E) -> Option (List AV)
 | zs,[] => some zs
 | zs,(off,sz,x) :: r =>
   if (bp c env x).cells.length = sz /\ off + sz <= zs.length /\ bq (bp c env x).cells = true then oT c env (jK zs off (bp c env x).cells) r else none
def iC : Et -> AV -> Option Bool
 | .Pj,.dn => some true
 | .Pj,.c8 _ _ _ len => if len = 0 then none else some false
 | .Pj,.list _ (_ :: _) => some false
 | .Pj,.sl _ _ _ _ => some false
 | .Fo,.eP => some true
 | .Fo,.ptr _ _ => some false
 | .Fo,.dh _ => some false
 | .nfn,.eT => some true
 | .nfn,.func _ _ _ => some false
 | _,_ => none
def eqB : Et -> AV -> AV -> Option Bool
 | .bool,.bool a,.bool b => some (a == b)
 | .str l,.agg xs,.agg ys => tO l xs ys
 | .Pj,x,.own _ [] => iC .Pj x
 | .Pj,x,.dn => iC .Pj x
 | .Fo,x,.eP => iC .Fo x
 | .nfn,x,.eT => iC .nfn x
 | _,_,_ => none
def JV (ag : Option Nat) (cs : List AV) : Option AV :=
 match Ay ag cs with
 | some v => if bJ v then none else some v
 | none => none
def Pc (c : dR) (env : Env) : Kd -> Option AV
 | .mv x => some (bp c env x)
 | .pick t a b => match bp c env t with
   | .bool t => some (if t then bp c env a else bp c env b)
   | _ => none
 | .build zs ps => match oT c env zs ps with
   | some cs => some (.agg cs)
   | none => none
 | .mu x => match bp c env x with
   | .ptr b off => some (.ptr b off)
   | .dh cs => some (.dh cs)
   | .func (.func f) a b => some (.func (.func f) a b)
   | _ => none
 | .bin op x y => oM op (bp c env x) (bp c env y)
 | .eq ng t x y => match eqB t (bp c env x) (bp c env y) with
   | some e => some (.bool (if ng then !e else e))
   | none => none
 | .un op x => Oq op (bp c env x)
 | .De k x => match bp c env x with
   | .int _ n => some (.int k (k.wrap n))
   | _ => none
 | .MK fn a b => if bI (dt c env a ++ dt c env b) then none else some (.func fn (dt c env a) (dt c env b))
 | .GY k x lo hi => match PJ (bp c env x) with
   | some n => match yC c env n n hi with
     | some h => match yC c env 0 h lo with
       | some l => match bp c env x with
         | .own k' xs => if k' = k then some (.own k xs) else none
         | .list k' xs => if k' = k then some (.list k ((xs.take h).drop l)) else none
         | .c8 k' p off _ => if k' = k then some (.c8 k p (off + l) (h - l)) else none
         | .sl k' b off _ => if k' = k then some (.sl k b (off + l * k) (h - l)) else none
         | _ => none
       | none => none
     | none => none
   | none => none
 | .cH off x => match bp c env x with
   | .ptr b o => some (.ptr b (o + off))
   | .dh cs => some (.dh (cs.drop off))
   | .ez k p i o => some (.ez k p i (o + off))
   | _ => none
 | .Hw n x hi => match hi with
   | none => match bp c env x with
     | .dh cs => if n <= cs.length /\ bq (cs.take n) = true then some (.list 1 (cs.take n)) else none
     | _ => none
   | some _ => none
 | .Vb off ag x => match bp c env x with
   | .agg cs => JV ag (cs.drop off)
   | _ => none
 | .fa k x i => match bp c env x with
   | .list k' xs => match idx (bp c env i) xs.length with
     | some j => if k' = k then match xs[j]? with
       | some v => some (.dh v.cells)
       | none => none
       else none
     | none => none
   | .c8 k' p off len => match idx (bp c env i) len with
     | some j => if k' = k then some (.ez k p (off + j) 0) else none
     | none => none
   | .sl k' b off len => match idx (bp c env i) len with
     | some j => if k' = k then some (.ptr b (off + j * k)) else none
     | none => none
   | _ => none
 | .He n k x i => match idx (bp c env i) n with
   | some j => match bp c env x with
     | .ptr b off => some (.ptr b (off + j * k))
     | .dh cs => some (.dh (cs.drop (j * k)))
     | .ez k' p l off => some (.ez k' p l (off + j * k))
     | _ => none
   | none => none
 | .ix n k ag x i => match idx (bp c env i) n with
   | some j => match bp c env x with
     | .agg cs => JV ag (cs.drop (j * k))
     | _ => none
   | none => none
 | .UP tab i => match idx (bp c env i) tab.length with
   | some j => match tab[j]? with
     | some v => some (.int .u8 v)
     | none => none
   | none => none
 | .ext i x => match bp c env x with
   | .dp vs => match vs[i]? with
     | some v => if bJ v then none else some v
     | none => none
   | _ => none
 | .len x => match PJ (bp c env x) with
   | some n => some (.int .i64 n)
   | none => none
 | .min xs => yg false (dt c env xs)
 | .max xs => yg true (dt c env xs)
 | _ => none

def fF (c : dR) (env : Env) : List (Nat × Nat × E) -> List Rt
 | [] => []
 | (_,_,x) :: r => aK (bp c env x) ++ fF c env r
inductive Fq where
 | no | rc (b j : Nat) | rd (ps : List Rt) | al (n : Nat) | wr (sl : List Nat) (bs : Option (List Nat)) | all | sp | bo (ps : List Rt) | lw (b : Nat)
 deriving Inhabited
def zT (p : Rt) : List Rt -> Bool
 | [] => false
 | q :: r => decide (q = p) || zT p r
def isRoot (p : Rt) (i : Nat) : Bool :=
 match p with
 | .s j => decide (j = i)
 | .sc j _ => decide (j = i)
 | .c _ _ => false
def k9 (p : Rt) : Env -> List Nat
 | [] => []
 | (i,v) :: r => if zT p (aK v) || isRoot p i then i :: k9 p r else k9 p r
def qa (p : Rt) : Nat -> Heap -> List Nat
 | _,[] => []
 | b,none :: r => qa p (b + 1) r
 | b,some cs :: r => if zT p (cY cs) then b :: qa p (b + 1) r else qa p (b + 1) r
def bH : List Rt -> Bool
 | [] => false
 | .c _ _ :: _ => true
 | _ :: r => bH r
def bL : Env -> List Nat
 | [] => []
 | (i,v) :: r => if bH (aK v) then i :: bL r else bL r
def LD (k : Nat) (x : AV) (off : Nat) (vs : List AV) : AV := if off = 0 /\ vs.length = k then el vs else el (jK x.cells off vs)
def ya (s : St) (ag : Option Nat) : AV -> Option (AV × List Rt)
 | .dh cs => match JV ag cs with
   | some v => some (v,[])
   | none => none
 | .ptr b off => match aJ s.H b with
   | some cs => match JV ag ((dZ (.c b) 0 cs).drop off) with
     | some v => some (v,[.c b (if (aK v).isEmpty then 1 else 0)])
     | none => none
   | none => none
 | .ez k p i off => match av s p with
   | some (k',xs) => if k' = k then match xs[i]? with
     | some x => match JV ag (x.cells.drop off) with
       | some v => some (v,[p])
       | none => none
     | none => none
     else none
   | none => none
 | _ => none
def eH (b : Nat) : Nat -> Nat -> St -> St
 | _,0,s => s
 | j,n + 1,s => eH b (j + 1) n (match av s (.c b j) with
   | some _ => rel s (.c b j)
   | none => s)
def cE (i b off : Nat) : Rt -> Rt
 | .s j => if j = i then .c b off else .s j
 | .sc j l => if j = i then .c b (off + l) else .sc j l
 | .c d j => .c d j
def du (i b off : Nat) : AV -> AV
 | .c8 k p o len => .c8 k (cE i b off p) o len
 | .ez k p l o => .ez k (cE i b off p) l o
 | v => v
def bV (s : St) (b off k : Nat) : Option St :=
 match aJ (bY (du eL b off) s).H b with
 | some cs => if (get (bY (du eL b off) s).env eL).cells.length = k /\ off + k <= cs.length /\ bI ((cs.drop off).take k) = false /\ bq (get (bY (du eL b off) s).env eL).cells = true then
   some ⟨put (bY (du eL b off) s).env eL .any,(bY (du eL b off) s).H.set b (some (jK cs off (get (bY (du eL b off) s).env eL).cells))⟩
   else none
 | none => none
def wX (s : St) (b off k : Nat) (v : AV) : Option (St × Fq) :=
 match aJ s.H b with
 | some cs => if v.cells.length = k /\ off + k <= cs.length /\ bq v.cells = true then
   if bI ((cs.drop off).take k) && GL (cJ b off k) s v then
    match get s.env eL with
    | .any => match bV (eH b off k ⟨put s.env eL v,s.H⟩) b off k with
      | some s' => some (s',.all)
      | none => none
    | _ => none
   else some (⟨s.env,s.H.set b (some (jK cs off v.cells))⟩,.wr [] (some [b]))
   else none
 | none => none
def rootOf : Rt -> List Nat
 | .s i => [i]
 | .sc i _ => [i]
 | .c _ _ => []
def kN : Rt -> List Nat
 | .c b _ => [b]
 | _ => []
def Tu : Rt -> List Nat
 | .c b _ => [kB b 99999]
 | _ => []
def N6 (s : St) (k : Nat) (a v : AV) : Option (St × Fq) :=
 match a with
 | .ptr b off => wX s b off k v
 | .ez k' p i off => match av s p with
   | some (wA,xs) => if wA = k' then match xs[i]? with
     | some x => if v.cells.length = k /\ off + k <= k' /\ U9 v.cells = true then some (setAt s p (.own k' (xs.set i (LD k' x off v.cells))),.wr (marks (rootOf p)) (some (Tu p))) else none
     | none => none
     else none
   | none => none
 | _ => none

def eC : AV -> AV
 | .c8 _ (.c _ _) _ _ => .any
 | .ez _ (.c _ _) _ _ => .any
 | x => x
def bh : Rt -> Bool
 | .c _ _ => false
 | _ => true
def cO : Heap -> Bool
 | [] => true
 | none :: _ => false
 | some cs :: r => !vO bh (cY cs) && cO r
def fo : AV -> AV
 | .c8 k (.c b j) off len => .c8 k (.c b j) off len
 | .ez k (.c b j) i off => .ez k (.c b j) i off
 | .c8 _ _ _ _ => .any
 | .ez _ _ _ _ => .any
 | x => x
def fnE : Fn -> Fn -> Bool
 | .func f,y => match y with | .func g => kI f g | _ => false
 | _,_ => false
mutual
def oN : AV -> AV -> Bool
 | .any,y => match y with | .any => true | _ => false
 | .undef,y => match y with | .undef => true | _ => false
 | .eP,y => match y with | .eP => true | _ => false
 | .eT,y => match y with | .eT => true | _ => false
 | .dn,y => match y with | .dn => true | _ => false
 | .int k n,y => match y with | .int k' n' => decide (k = k') && decide (n = n') | _ => false
 | .bool b,y => match y with | .bool b' => b == b' | _ => false
 | .str _,_ => false
 | .agg x,y => match y with | .agg x' => kH x x' | _ => false
 | .dp x,y => match y with | .dp x' => kH x x' | _ => false
 | .list k x,y => match y with | .list k' x' => kI k k' && kH x x' | _ => false
 | .dh x,y => match y with | .dh x' => kH x x' | _ => false
 | .ptr b o,y => match y with | .ptr b' o' => kI b b' && kI o o' | _ => false
 | .sl k b o l,y => match y with | .sl k' b' o' l' => (kI k k' && kI b b') && (kI o o' && kI l l') | _ => false
 | .func f a b,y => match y with | .func f' a' b' => fnE f f' && (kH a a' && kH b b') | _ => false
 | .own k x,y => match y with | .own k' x' => kI k k' && kH x x' | _ => false
 | .c8 k p o l,y => match y with | .c8 k' p' o' l' => (kI k k' && decide (p = p')) && (kI o o' && kI l l') | _ => false
 | .ez k p i o,y => match y with | .ez k' p' i' o' => (kI k k' && decide (p = p')) && (kI i i' && kI o o') | _ => false
def kH : List AV -> List AV -> Bool
 | [],y => match y with | [] => true | _ => false
 | a :: r,y => match y with | b :: s => oN a b && kH r s | _ => false
end
theorem afo : ∀ {f g : Fn},fnE f g = true -> f = g := by
 intro f g h;cases f <;> cases g <;> simp only [fnE,bO] at h
 rw [bW h]
mutual
theorem afK : ∀ (a b : AV),oN a b = true -> a = b
 | .any,b,h => by cases b <;> first | rfl | (simp [oN] at h; done)
 | .undef,b,h => by cases b <;> first | rfl | (simp [oN] at h; done)
 | .eP,b,h => by cases b <;> first | rfl | (simp [oN] at h; done)
 | .eT,b,h => by cases b <;> first | rfl | (simp [oN] at h; done)
 | .dn,b,h => by cases b <;> first | rfl | (simp [oN] at h; done)
 | .int k n,b,h => by
   cases b <;> first | (simp [oN] at h; done) | skip
   simp only [oN,aa,decide_eq_true_eq] at h;rw [h.1,h.2]
 | .bool x,b,h => by
   cases b <;> first | (simp [oN] at h; done) | skip
   simp only [oN,beq_iff_eq] at h;rw [h]
 | .str _,b,h => by simp [oN] at h
 | .agg x,b,h => by
   cases b <;> first | (simp [oN] at h; done) | skip
   simp only [oN] at h;rw [pd _ _ h]
 | .dp x,b,h => by
   cases b <;> first | (simp [oN] at h; done) | skip
   simp only [oN] at h;rw [pd _ _ h]
 | .dh x,b,h => by
   cases b <;> first | (simp [oN] at h; done) | skip
   simp only [oN] at h;rw [pd _ _ h]
 | .list k x,b,h => by
   cases b <;> first | (simp [oN] at h; done) | skip
   simp only [oN,aa] at h;rw [bW h.1,pd _ _ h.2]
 | .own k x,b,h => by
   cases b <;> first | (simp [oN] at h; done) | skip
   simp only [oN,aa] at h;rw [bW h.1,pd _ _ h.2]
 | .ptr k x,b,h => by
   cases b <;> first | (simp [oN] at h; done) | skip
   simp only [oN,aa] at h;rw [bW h.1,bW h.2]
 | .sl k x y z,b,h => by
   cases b <;> first | (simp [oN] at h; done) | skip
   simp only [oN,aa] at h;rw [bW h.1.1,bW h.1.2,bW h.2.1,bW h.2.2]
 | .func f x y,b,h => by
   cases b <;> first | (simp [oN] at h; done) | skip
   simp only [oN,aa] at h;rw [afo h.1,pd _ _ h.2.1,pd _ _ h.2.2]
 | .c8 k x y z,b,h => by
   cases b <;> first | (simp [oN] at h; done) | skip
   simp only [oN,aa,decide_eq_true_eq] at h;rw [bW h.1.1,h.1.2,bW h.2.1,bW h.2.2]
 | .ez k x y z,b,h => by
   cases b <;> first | (simp [oN] at h; done) | skip
   simp only [oN,aa,decide_eq_true_eq] at h;rw [bW h.1.1,h.1.2,bW h.2.1,bW h.2.2]
theorem pd : ∀ (x y : List AV),kH x y = true -> x = y
 | [],y,h => by cases y <;> first | rfl | (simp [kH] at h; done)
 | a :: r,y,h => by
   cases y with
   | nil => simp [kH] at h
   | cons b s =>
     simp only [kH,aa] at h;rw [afK _ _ h.1,pd _ _ h.2]
end
def qZ : TQ -> TQ -> Bool
 | none,y => match y with | none => true | some _ => false
 | some x,y => match y with | some x' => kH x x' | none => false
theorem ab6 {x y : TQ} (h : qZ x y = true) : x = y := by
 cases x <;> cases y <;> simp only [qZ,bO] at h
 ·rfl
 ·rw [pd _ _ h]
mutual
def sO : AV -> List Nat
 | .ptr b _ => [b]
 | .sl _ b _ _ => [b]
 | .agg cs => iH cs
 | .dp cs => iH cs
 | .func _ a b => iH a ++ iH b
 | _ => []
def iH : List AV -> List Nat
 | [] => []
 | x :: r => sO x ++ iH r
end
def kM : TQ -> Bool
 | some cs => !bI cs && (cY cs).isEmpty
 | none => false
def dy (l : List Nat) : Nat -> Heap -> Heap -> Option (List Nat)
 | _,[],[] => some []
 | b,x :: H,y :: H' => match dy l (b + 1) H H' with
   | some r => if mem b l then some r else if qZ x y then some (if kM x then r else (b + kZ) :: r) else none
   | none => none
 | _,_,_ => none
def jb (l : List Nat) : Option (List Nat) -> Option (List Nat)
 | some r => some (l ++ r)
 | none => none
mutual
def SW : AV -> AV
 | .c8 k p off n => if n = 0 then .list k [] else .c8 k p off n
 | .agg cs => .agg (zI cs)
 | v => v
def zI : List AV -> List AV
 | [] => []
 | x :: r => SW x :: zI r
end
def nV (c : dR) (env : Env) : Kd -> Option (Nat × List AV)
 | .call f args => some (f,dt c env args)
 | .jm x args => match bp c env x with
   | .func (.func f) a b => if bI a || bI b then none else some (f,a ++ dt c env args ++ b)
   | _ => none
 | _ => none
def getArgs (c : dR) (env : Env) (kd : Kd) : Option (Nat × List AV) :=
 match nV c env kd with
 | some (f,args) => some (f,if c.emp f = true then zI args else args)
 | none => none
def Mx (r : AV) : Bool := clean r && (match r with
 | .own _ _ => true
 | r => !bJ r)
def mA (s : St) : List Rt -> Fq
 | [p] => match av s p with
   | some _ => .wr (k9 p s.env) (some (kN p ++ qa p 0 s.H))
   | none => .all
 | _ => .all
def dG (c : dR) (call : Nat -> List AV -> Heap -> Option (AV × Heap)) (kd : Kd) (s : St) : Option (AV × St × Fq) :=
 match getArgs c s.env kd with
 | none => none
 | some (f,args) => match c.fn f with
   | none => none
   | some (md,_) =>
     if md.cl && !md.sh then
      match sT s args with
      | none => none
      | some qJ => match call f qJ [] with
        | some (r,_) => if Mx r then some (r,s,if (cY args ++ DN args).isEmpty then .no else .rd (cY args ++ DN args)) else none
        | none => none
     else match getArgs c (dC (cY args) s).env kd with
      | none => none
      | some (f1, nY) => if f1 = f then
           if md.sh then
            if cI (nY.map iP) && cO (dC (cY args) s).H then match call f (nY.map iP) (dC (cY args) s).H with
              | some (r,H') => if ((aK r).isEmpty && !bJ r) && cO H' then some (r,⟨kf eC (dC (cY args) s).env,H'⟩,if (cY args).isEmpty then .wr (bL s.env) (jb (iH nY) (dy (iH nY) 0 (dC (cY args) s).H H')) else .all) else none
              | none => none
            else none
           else if df (nY.map iP) then match call f (nY.map iP) [] with
            | some (r,_) => if pl r then some (r,dC (cY args) s,if (cY args).isEmpty then .no else mA s (cY args)) else none
            | none => none
           else none
        else none

def US (k : Nat) (p : Rt) : Option Nat -> AV
 | none => .dp []
 | some m => .c8 k p 0 m
def inpL (k : Nat) : Option Nat -> AV
 | none => .dp []
 | some _ => .list k []
def KR (k b : Nat) : Option Nat -> AV
 | none => .dp []
 | some m => .sl k b 0 m
def cellOf : Rt -> List Nat
 | .c b j => [kB b j]
 | _ => []
def xx : List Rt -> List Nat
 | [] => []
 | p :: r => rootOf p ++ xx r
def agT (s : St) (p : Rt) : AV -> Option AV
 | .int k n => some (.int k n)
 | .c8 k q off len => if q = p then none else match av s q with
   | some (k',xs) => if k' = k /\ off + len <= xs.length /\ fm xs = true then some (.list k ((xs.drop off).take len)) else none
   | none => none
 | _ => none
def isFn : AV -> Bool
 | .func _ _ _ => true
 | _ => false
def adz : List AV -> Bool
 | [] => false
 | x :: r => isFn x || adz r
def P3 (s : St) (g : Nat -> List AV -> List AV -> Option (List AV)) (x : AV) (es : List AV) : Option (AV × St × Fq) := none
def oJ (c : dR) (s : St) : Kd -> Option (Option (AV × St × Fq))
 | .call f (x :: es) => match c.inp f with
   | none => match c.eat f with
     | none => none
     | some g => some (P3 s g (bp c s.env x) (dt c s.env es))
   | some g => some (match bp c s.env x with
     | .list k [] => if df (dt c s.env es) = true then match g k [] (dt c s.env es) with
       | some (_,res) => some (inpL k res,s,.wr [] (some []))
       | none => none
       else none
     | .c8 k p 0 len => match av s p with
       | some (k',xs) => if k' = k /\ len <= xs.length /\ df (dt c s.env es) = true then
         match g k (xs.take len) (dt c s.env es) with
         | some (ys,res) => some (US k p res,setAt s p (.own k (ys ++ xs.drop len)),.wr (rootOf p) (some (kN p)))
         | none => none
         else none
       | none => none
     | .sl k b 0 len => match aJ s.H b with
       | some cs => if k = 1 /\ len <= cs.length /\ U9 cs = true /\ df (dt c s.env es) = true then
         match g k (cs.take len) (dt c s.env es) with
         | some (ys,res) => some (KR k b res,⟨s.env,s.H.set b (some (aG ys ++ cs.drop len))⟩,.all)
         | none => none
         else none
       | none => none
     | _ => none)
 | _ => none
def UI (c : dR) (call : Nat -> List AV -> Heap -> Option (AV × Heap)) (s : St) (f : Nat) (es : List AV) : AV -> Option (AV × St × Fq)
 | .ptr b 0 => match c.fn f,aJ s.H b with
   | some (md,_),some cs => if md.sh = true /\ df es = true /\ df cs = true then match call f (.ptr 0 0 :: es) [some cs] with
     | some (r,[some cs']) => if pl r = true /\ df cs' = true then some (r,⟨s.env,s.H.set b (some cs')⟩,.lw b) else none
     | _ => none
     else none
   | _,_ => none
 | _ => none
def mJ (c : dR) (call : Nat -> List AV -> Heap -> Option (AV × Heap)) (s : St) : Kd -> Option (Option (AV × St × Fq))
 | .call f (x :: es) => if c.loc f = true then some (UI c call s f (dt c s.env es) (bp c s.env x)) else none
 | _ => none
def MJ (c : dR) (call : Nat -> List AV -> Heap -> Option (AV × Heap)) (f i : Nat) (s1 : St) (xs : List AV) : Option (AV × St × Fq) := none
def qQ (c : dR) (call : Nat -> List AV -> Heap -> Option (AV × Heap)) (s : St) : Kd -> Option (Option (AV × St × Fq))
 | .call f es => match c.mov f with
   | some i => some (MJ c call f i (dC (cY ((dt c s.env es).set i .undef)) s) (dt c (dC (cY ((dt c s.env es).set i .undef)) s).env es))
   | none => none
 | _ => none
def slAt : Nat -> List AV -> Option (Nat × Nat × Nat × Nat)
 | _,[] => none
 | i,.sl k b off len :: r => if k = 1 then some (i,b,off,len) else slAt (i + 1) r
 | i,_ :: r => slAt (i + 1) r
def As (c : dR) (call : Nat -> List AV -> Heap -> Option (AV × Heap)) (s : St) (kd : Kd) : Option (AV × St × Fq) := none
def qH (c : dR) (call : Nat -> List AV -> Heap -> Option (AV × Heap)) (kd : Kd) (s : St) : Option (AV × St × Fq) :=
 match dG c call kd s with
 | some x => some x
 | none => As c call s kd
def fj (c : dR) (call : Nat -> List AV -> Heap -> Option (AV × Heap)) (kd : Kd) (s : St) : Option (AV × St × Fq) :=
 match qQ c call s kd with
 | some r => r
 | none => qH c call kd s
def dm (c : dR) (call : Nat -> List AV -> Heap -> Option (AV × Heap)) (kd : Kd) (s : St) : Option (AV × St × Fq) :=
 match oJ c s kd with
 | some r => r
 | none => match mJ c call s kd with
   | some r => r
   | none => fj c call kd s
def ldOK (x v : AV) : Bool := match x with
 | .ptr _ _ => true
 | _ => (aK v).isEmpty
def vp (x v : AV) (ps : List Rt) : Fq := match x,v with
 | .ptr b off,.c8 _ (.c d j) _ _ => if d = b /\ j = off then .rc b off else .rd ps
 | _,_ => .rd ps
def Vs : List AV -> Option (List AV)
 | [.own k []] => if 1000 <= k then some [.own (k - 1000) []] else none
 | _ => none
def NH (p : Rt) : AV -> Fq
 | .c8 _ q _ _ => if q = p then .wr (rootOf p) (some (kN p)) else .all
 | _ => .all
theorem vF (p : Rt) (x : AV) : NH p x = .all \/ ∃ k off len,x = .c8 k p off len /\ NH p x = .wr (rootOf p) (some (kN p)) := by
 unfold NH;split
 ·rename_i k q off len;split
  ·rename_i e;subst e;exact .inr ⟨_,_,_,rfl,rfl⟩
  ·exact .inl rfl
 ·exact .inl rfl
def eR (c : dR) (call : Nat -> List AV -> Heap -> Option (AV × Heap)) (s : St) : Kd -> Option (AV × St × Fq)
 | .new zs => some (.ptr s.H.length 0,⟨s.env,s.H ++ [some zs]⟩,.al s.H.length)
 | .box x => if bq (bp c s.env x).cells then some (.ptr s.H.length 0,⟨s.env,s.H ++ [some (bp c s.env x).cells]⟩,.al s.H.length) else none
 | .c5 k n zs ps =>
   let s1 := dC (fF c s.env ps) s
   match oT c s1.env (rep zs n) ps with
   | some cs => if U9 (cs.map iP) then some (.own k (Oc k n (cs.map iP)),s1,if (fF c s.env ps).isEmpty then .no else mA s (fF c s.env ps)) else none
   | none => none
 | .KF k zs l cp => match bp c s.env l,bp c s.env cp with
   | .int _ l,.int _ cp => if 0 <= l /\ l <= cp /\ cp <= (kR : Int) then some (match Vs zs with
     | some z => (.sl k s.H.length 0 l.toNat,⟨s.env,s.H ++ [some (rep z l.toNat)]⟩,.al s.H.length)
     | none => (.own k (List.replicate l.toNat (el (zs.map iP))),s,.no)) else none
   | _,_ => none
 | .ld ag x => match ya s ag (bp c s.env x) with
   | some (v,ps) => if ldOK (bp c s.env x) v then some (v,s,vp (bp c s.env x) v ps) else none
   | none => none
 | .st k a v => match bp c s.env a with
   | .ez _ _ _ _ =>
     let s1 := dC (aK (bp c s.env v)) s
     match N6 s1 k (bp c s1.env a) (bp c s1.env v) with
     | some (s',f) => some (.undef,s',if (aK (bp c s.env v)).isEmpty then f else .all)
     | none => none
   | a => match N6 s k a (bp c s.env v) with
     | some (s',f) => some (.undef,s',f)
     | none => none
 | .Vh _ _ x => match bp c s.env x with
   | .own _ [] => some (.undef,s,.no)
   | .list _ [] => some (.undef,s,.no)
   | _ => none
 | .call f args => dm c call (.call f args) s
 | .jm x args => dm c call (.jm x args) s
 | .app k x y => match cont s k (bp c s.env y) with
   | some ys => if bq (aG ys) = true then match bp c s.env x with
     | .own _ [] => if ys.length <= kR then some (.own k ys,s,.rd (aK (bp c s.env y))) else none
     | .c8 k' p 0 len => match av s p with
       | some (wA,xs) => if k' = k /\ wA = k /\ len <= xs.length /\ len + ys.length <= kR then some (.own k (xs.take len ++ ys),setAt (bY (sw p) s) p .any,.wr (k9 p s.env ++ marks (xx (aK (bp c s.env y)))) (some (cellOf p ++ qa p 0 s.H))) else none
       | none => none
     | _ => none
     else none
   | none => none
 | .copy k x y => match bp c s.env x with
   | .c8 k' p off n => if n = 0 then (match cont s k (bp c s.env y) with
     | some ys => if k' = k /\ bq (aG ys) = true then some (.int .i64 0,s,.all) else none
     | none => none) else match av s p,cont s k (bp c s.env y) with
     | some (wA,xs),some ys => if k' = k /\ wA = k /\ off + n <= xs.length /\ bq (aG ys) = true then some (.int .i64 (min ys.length n : Nat),setAt s p (.own k (jK xs off (ys.take (min ys.length n)))),NH p (bp c s.env y)) else none
     | _,_ => none
   | _ => none
 | .Hw n x hi => match bp c s.env x with
   | .ptr b off => match yC c s.env n n hi,aJ s.H b with
     | some m,some cs => if off + n <= cs.length then some (.sl 1 b off m,s,.rd [.c b 1]) else none
     | _,_ => none
   | _ => match Pc c s.env (.Hw n x hi) with
     | some v => some (v,s,.no)
     | none => none
 | kd => match Pc c s.env kd with
   | some v => some (v,s,.no)
   | none => none

def bM (e : Env) (d : Option Nat) (fl : Fq) : Fq :=
 match d with
 | none => fl
 | some d => if bJ (get e d) then .sp else if (aK (get e d)).isEmpty then fl else match fl with
   | .no => .bo []
   | .rd ps => .bo ps
   | .rc b _ => .bo [.c b 0]
   | _ => .sp
def z7 (e : Env) (d : Option Nat) (v : AV) (s : St) (fl : Fq) : Option (St × Fq) :=
 match w9 s d v with
 | some s' => some (s',bM e d fl)
 | none => none
def p9 (c : dR) (call : Nat -> List AV -> Heap -> Option (AV × Heap)) (s : St) (o : O) : Option (St × Fq) :=
 match o.guard with
 | none => match eR c call s o.kd with
   | some (v,s',fl) => z7 s.env o.dst v s' fl
   | none => none
 | some (g,want) => match get s.env g with
   | .bool b => if b = want then
     match eR c call s o.kd with
     | some (v,s',fl) => z7 s.env o.dst v s' fl
     | none => none
     else z7 s.env o.dst .undef s .no
   | .undef => z7 s.env o.dst .undef s .no
   | _ => none
def mn (c : dR) (call : Nat -> List AV -> Heap -> Option (AV × Heap)) : List O -> St -> Option (St × List Fq)
 | [],s => some (s,[])
 | o :: r,s => match p9 c call s o with
   | some (s',fl) => match mn c call r s' with
     | some (s'',oL) => some (s'',fl :: oL)
     | none => none
   | none => none

def still : Kd -> Bool
 | .mv _ | .pick _ _ _ | .build _ _ | .mu _ | .bin _ _ _ | .eq _ _ _ _ | .un _ _ | .De _ _ | .MK _ _ _ | .GY _ _ _ _ | .cH _ _ | .Vb _ _ _ | .fa _ _ _ | .He _ _ _ _ | .ix _ _ _ _ _ | .ext _ _ | .UP _ _ | .len _ | .min _ | .max _ => true
 | .KF _ zs _ _ => (Vs zs).isNone
 | _ => false
def fG (n : Nat) : List Rt -> Bool
 | [] => true
 | .c b _ :: r => decide (b < n) && fG n r
 | _ :: r => fG n r
def fJ (d : Nat) : List Rt -> Bool
 | [] => true
 | .s i :: r => decide (i ≠ d) && fJ d r
 | .sc i _ :: r => decide (i ≠ d) && fJ d r
 | .c _ _ :: r => fJ d r
def yu (d : Option Nat) : Fq -> Bool
 | .rd ps => match d with
   | some d => fJ d ps
   | none => true
 | .bo ps => match d with
   | some d => fJ d ps
   | none => true
 | _ => true
def pF (b : Nat) : List Rt -> Bool
 | [] => true
 | .c d _ :: r => decide (d ≠ b) && pF b r
 | _ :: r => pF b r
def Fq.ok : Fq -> Fq -> Bool
 | .no,.no => true
 | .no,.rd _ => true
 | .no,.al _ => true
 | .no,.wr _ _ => true
 | .rd _,.no => true
 | .al _,.no => true
 | .wr _ _,.no => true
 | .rd _,.rd _ => true
 | .rd _,.wr _ _ => true
 | .wr _ _,.rd _ => true
 | .al n,.rd ps => fG n ps
 | .rd ps,.al n => fG n ps
 | .al n,.bo ps => fG n ps
 | .bo ps,.al n => fG n ps
 | .no,.bo _ => true
 | .bo _,.no => true
 | .rd _,.bo _ => true
 | .bo _,.rd _ => true
 | .bo _,.bo _ => true
 | .no,.rc _ _ => true
 | .rc _ _,.no => true
 | .rc _ _,.rd _ => true
 | .rd _,.rc _ _ => true
 | .rc _ _,.rc _ _ => true
 | .rc _ _,.bo _ => true
 | .bo _,.rc _ _ => true
 | .rc _ _,.wr _ _ => true
 | .wr _ _,.rc _ _ => true
 | .al n,.rc b _ => decide (b < n)
 | .rc b _,.al n => decide (b < n)
 | .no,.lw _ => true
 | .lw _,.no => true
 | .rd ps,.lw b => pF b ps
 | .lw b,.rd ps => pF b ps
 | .rc d _,.lw b => decide (d ≠ b)
 | .lw b,.rc d _ => decide (d ≠ b)
 | .al n,.lw b => decide (b < n)
 | .lw b,.al n => decide (b < n)
 | _,_ => false
def Fu (sl : List Nat) : List Nat -> Bool
 | [] => true
 | i :: r => !mem i sl && Fu sl r
def oO (sl : List Nat) (bs : Option (List Nat)) : List Rt -> Bool
 | [] => true
 | .s i :: r => (!mem i sl && !mem (i + kZ) sl) && oO sl bs r
 | .sc i _ :: r => (!mem i sl && !mem (i + kZ) sl) && oO sl bs r
 | .c b j :: r => (match bs with
   | some bs => !mR b bs && (decide (j ≠ 0) || !mem (b + kZ) bs)
   | none => false) && oO sl bs r
def Ld (bs : Option (List Nat)) (b j : Nat) : Bool := match bs with
 | some bs => !mem b bs && (!mem (b + kZ) bs && !mem (kB b j) bs)
 | none => false
def HF (f : Fq) (y : O) (g : Fq) : Bool :=
 match f with
 | .wr sl bs => Fu sl y.reads && (match y.dst with
   | some d => !mem d sl && !mem (d + kZ) sl
   | none => true) && (match g with
   | .rd ps => oO sl bs ps
   | .rc b j => Ld bs b j
   | _ => true)
 | _ => true
def ja (x : O) (f : Fq) (y : O) (g : Fq) : Bool := f.ok g && (yu x.dst g && yu y.dst f) && (HF f y g && HF g x f)
def zG (os : List O) (oL : List Fq) : List (Nat × Nat) -> Bool
 | [] => true
 | (i,j) :: r => (decide (i = j) || ja (os.getD i ⟨none,none,.min []⟩) (oL.getD i .all) (os.getD j ⟨none,none,.min []⟩) (oL.getD j .all)) && zG os oL r

def nH : Fq -> Bool
 | .no | .rc _ _ | .rd _ | .al _ | .bo _ | .wr _ _ | .lw _ => true
 | _ => false
def GO (un : List (Nat × Nat)) : Nat -> List Fq -> Bool
 | _,[] => true
 | k,f :: r => (nH f || j7 k k un) && GO un (k + 1) r
def Jc (os : List O) (oL : List Fq) (un : List (Nat × Nat)) : Bool := GO un 0 oL && zG os oL un

/-! Results -/
def Uo (c : dR) (s : St) : Rv -> Option AV
 | .t i => some (bp c s.env (.t i))
 | .c i ag => match ya s ag (bp c s.env (.t i)) with
   | some (v,_) => some v
   | none => none
def oR (c : dR) (s : St) : List Rv -> Option (List AV)
 | [] => some []
 | r :: rs => match Uo c s r,oR c s rs with
   | some v,some vs => some (v :: vs)
   | _,_ => none
def Yr (base : Nat) : Rt -> Bool
 | .c b _ => decide (base <= b)
 | _ => true
def GN (base : Nat) : List Rt -> Bool
 | [] => true
 | p :: r => Yr base p && (r.all fun q => decide (q ≠ p)) && GN base r
def V5 (s : St) : AV -> Option AV
 | .c8 k p 0 len => match av s p with
   | some (k',xs) => if k' = k /\ len <= xs.length then some (.own k (xs.take len)) else none
   | none => none
 | .own k [] => some (.own k [])
 | x => if pl x then some x else none
def V6 (s : St) (x : AV) : Option AV := V5 s x
def eh (base : Nat) (s : St) (v : AV) : Option (AV × Heap) :=
 match get s.env eL with
 | .any =>
   let s2 := dC (aK v) ⟨put s.env eL v,s.H⟩
   let r := get s2.env eL
   if eO r then some (r,trim base [(0,r)] s2.H.length (fL fo s2.H)) else none
 | _ => none
def noB : AV -> AV
 | .c8 _ _ _ _ => .any
 | .own _ _ => .any
 | x => x
def TK (s : St) : Nat -> List Rt -> List AV -> Option (List AV × Heap)
 | _,_,[] => some ([],[])
 | n,used,.c8 k (.s i) 0 len :: r => match av s (.s i) with
   | some (k',xs) => if k' = k /\ len = xs.length /\ zT (.s i) used = false then
     if len = 0 then match TK s n used r with
      | some (ys,hs) => some (.list k [] :: ys,hs)
      | none => none
     else match TK s (n + 1) (.s i :: used) r with
      | some (ys,hs) => some (.sl k n 0 len :: ys,some (aG xs) :: hs)
      | none => none
     else none
   | none => none
 | n,used,x :: r => if eO x = true then match TK s n used r with
   | some (ys,hs) => some (x :: ys,hs)
   | none => none
   else none
def finX (base : Nat) (s : St) (v : AV) : Option (AV × Heap) := none
def aV (md : Md) (base : Nat) (s : St) (v : AV) : Option (AV × Heap) :=
 if md.sh then (if md.ow then finX base s v else eh base s v)
 else if md.ow then
  if GN base (aK v) then match V6 s v with
   | some r => some (r,[])
   | none => none
  else none
 else match PX s v with
  | some r => some (r,[])
  | none => none
def O8 (c : dR) (f : Nat) (args : List AV) (H : Heap) : Option (AV × Heap) :=
 match c.orc f with
 | some g => g args H
 | none => none
def mQ (c : dR) (run : Nat -> C -> St -> Option (Ex × St)) (f : Nat) (args : List AV) (H : Heap) : Option (AV × Heap) :=
 match O8 c f args H with
 | some x => some x
 | none => match c.fn f with
   | none => none
   | some (md,fn) => if args.length <= fn.n then
     match run H.length fn.body ⟨dJ 0 args,H⟩ with
     | some (.ret,s) => match oR c s fn.res with
       | some vs => aV md H.length s (nJ vs)
       | none => none
     | some (.normal,s) => match oR c s fn.res with
       | some vs => aV md H.length s (nJ vs)
       | none => none
     | _ => none
     else none
def cC (c : dR) : Nat -> Nat -> C -> St -> Option (Ex × St)
 | 0,_,_,_ => none
 | n + 1,base,cd,s => match cd with
   | .skip => some (.normal,s)
   | .ret => some (.ret,s)
   | .exit id => some (.exit id,s)
   | .aH os dr un keep => match mn c (mQ c (cC c n)) os s with
     | some (s',oL) => if dr = false \/ Jc os oL un = true then (match PZ base keep s' with
       | some s2 => some (.normal,s2)
       | none => none) else none
     | none => none
   | .seq a b => match cC c n base a s with
     | some (.normal,s') => cC c n base b s'
     | r => r
   | .cond x a b => match bp c s.env x with
     | .bool t => if t then cC c n base a s else cC c n base b s
     | _ => none
   | .aJ id b => match cC c n base b s with
     | some (.exit id',s') => if id' = id then some (.normal,s') else some (.exit id',s')
     | r => r
   | .loop b => match cC c n base b s with
     | some (.normal,s') => cC c n base (.loop b) s'
     | r => r
def oU (c : dR) (n : Nat) (f : Nat) (args : List AV) (H : Heap) : Option (AV × Heap) := mQ c (cC c n) f args H

/-! The code for the older machine: what is empty and owned is nil -/
def dnV : AV -> AV
 | .own _ [] => .dn
 | v => v
def sU : List AV -> List AV
 | [] => []
 | x :: r => dnV x :: sU r
def mC : E -> E
 | .k x => .k (dnV x)
 | x => x
def Bx : List E -> List E
 | [] => []
 | x :: r => mC x :: Bx r
def dnO : Option E -> Option E
 | some x => some (mC x)
 | none => none
def NF : List (Nat × Nat × E) -> List (Nat × Nat × E)
 | [] => []
 | (i,j,x) :: r => (i,j,mC x) :: NF r
def mB : Kd -> Kd
 | .mv x => .mv (mC x)
 | .pick c a b => .pick (mC c) (mC a) (mC b)
 | .new zs => .new (sU zs)
 | .box x => .box (mC x)
 | .build zs ps => .build (sU zs) (NF ps)
 | .c5 k n zs ps => .c5 k n (sU zs) (NF ps)
 | .ld ag x => .ld ag (mC x)
 | .st k a v => .st k (mC a) (mC v)
 | .mu x => .mu (mC x)
 | .bin op x y => .bin op (mC x) (mC y)
 | .eq ng t x y => .eq ng t (mC x) (mC y)
 | .un op x => .un op (mC x)
 | .De k x => .De k (mC x)
 | .MK fn a b => .MK fn (Bx a) (Bx b)
 | .KF k zs l cp => .KF k (sU zs) (mC l) (mC cp)
 | .GY k x lo hi => .GY k (mC x) (dnO lo) (dnO hi)
 | .cH off x => .cH off (mC x)
 | .Hw n x hi => .Hw n (mC x) (dnO hi)
 | .Vb off ag x => .Vb off ag (mC x)
 | .fa k x i => .fa k (mC x) (mC i)
 | .He n k x i => .He n k (mC x) (mC i)
 | .ix n k ag x i => .ix n k ag (mC x) (mC i)
 | .ext i x => .ext i (mC x)
 | .call f args => .call f (Bx args)
 | .jm x args => .jm (mC x) (Bx args)
 | .UP tab i => .UP tab (mC i)
 | .Vh k zs x => .Vh k (sU zs) (mC x)
 | .len x => .len (mC x)
 | .app k x y => .app k (mC x) (mC y)
 | .min xs => .min (Bx xs)
 | .max xs => .max (Bx xs)
 | .copy k x y => .copy k (mC x) (mC y)
 | .bad => .bad
def NG (o : O) : O := ⟨o.dst,o.guard,mB o.kd⟩
def kE : E -> Bool
 | .k x => (aK x).isEmpty
 | _ => true
def kEs : List E -> Bool
 | [] => true
 | x :: r => kE x && kEs r
def kEo : Option E -> Bool
 | some x => kE x
 | none => true
def kPs : List (Nat × Nat × E) -> Bool
 | [] => true
 | p :: r => kE p.2.2 && kPs r
def xe : Kd -> Bool
 | .mv x | .box x | .ld _ x | .mu x | .un _ x | .De _ x | .cH _ x | .Vb _ _ x | .ext _ x | .len x | .UP _ x | .Vh _ _ x => kE x
 | .pick c a b => kE c && (kE a && kE b)
 | .new _ => true
 | .bad => true
 | .build zs ps => (cY zs).isEmpty && kPs ps
 | .c5 _ _ zs ps => (cY zs).isEmpty && kPs ps
 | .st _ x y | .bin _ x y | .eq _ _ x y | .KF _ _ x y | .fa _ x y | .He _ _ x y | .ix _ _ _ x y | .app _ x y | .copy _ x y => kE x && kE y
 | .MK _ a b => kEs a && kEs b
 | .GY _ x lo hi => kE x && (kEo lo && kEo hi)
 | .Hw _ x hi => kE x && kEo hi
 | .call _ xs | .min xs | .max xs => kEs xs
 | .jm x xs => kE x && kEs xs
def Gq (un : List (Nat × Nat)) (i j : Nat) (x : O) (ys : List Nat) (q : O) : Bool := mem i ys || ((!j7 i i un && !j7 j j un) && (jQ x q && ((still x.kd && still q.kd) || j7 i j un)))
def sW (un : List (Nat × Nat)) (j : Nat) (ys : List Nat) (q : O) : Nat -> List O -> Bool
 | _,[] => true
 | i,x :: r => Gq un i j x ys q && sW un j ys q (i + 1) r
def nA (un : List (Nat × Nat)) (Ai : List (List Nat)) (seen : List O) : List Oper -> List O -> Bool
 | y :: r,q :: s => xe q.kd && ((direct y).all fun i => decide (i < seen.length)) && sW un seen.length (GM Ai y) q 0 seen && nA un (Ai ++ [GM Ai y]) (seen ++ [q]) r s
 | _,_ => true
def pP (P : Program) (N : Nat) (ops : Array Oper) : List Oper -> List O -> Bool
 | [],[] => true
 | o :: r,q :: s => K4 P N ops o (NG q) && pP P N ops r s
 | _,_ => false
def Hs (P : Program) (N : Nat) : Code -> C -> Bool
 | .skip,.skip => true
 | .ret,.ret => true
 | .exit i,.exit j => decide (i = j)
 | .region _ ops d,.aH os dr un _ => decide (d = dr) && pP P N ops ops.toList os && (!dr || nA un [] [] ops.toList os)
 | .seq a b,.seq x y => Hs P N a x && Hs P N b y
 | .cond c a b,.cond c' x y => cZ c (mC c') && Hs P N a x && Hs P N b y
 | .block i b,.aJ j x => decide (i = j) && Hs P N b x
 | .loop b,.loop x => Hs P N b x
 | .label _,.skip => true
 | .scope b,.seq .skip x => Hs P N b x
 | _,_ => false
def bK (P : Program) (fn : Func) (q : eB) : Bool :=
 decide (fn.ntmps = q.n) && decide (fn.ntmps <= eL) && !(fn.name == "runtime.NumGoroutine") && CQ P fn.results.toList q.res && (match fn.body with
  | some c => Hs P q.n c q.body
  | none => false)
structure eQ (P : Program) (c : dR) : Prop where
 mixed : P.follows .mixedOrders = true
 fn : ∀ f m q,c.fn f = some (m,q) -> ∃ fn,P.funcs[f]? = some fn /\ bK P fn q = true
end Go.Bm
