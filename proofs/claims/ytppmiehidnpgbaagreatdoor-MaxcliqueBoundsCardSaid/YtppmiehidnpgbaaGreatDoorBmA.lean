/- The machine by value: a slice that is owned is a value, too; others that refer to it borrow it from its place. -/
import Derived.Test.YtppmiehidnpgbaaGreatDoorMa
set_option linter.unusedVariables false

open Bool renaming and_eq_true → ae, false_eq_true → bn
open Nat renaming beq → kr, eq_of_beq_eq_true → cB
namespace Go.Bm
open Go.Am

structure Md where
 sh : Bool
 ow : Bool
 cl : Bool
 deriving Inhabited
structure eE where
 fn : Nat -> Option (Md × fK)
 gl : Nat -> List AV
 orc : Nat -> Option (List AV -> Heap -> Option (AV × Heap))
 inp : Nat -> Option (Nat -> List AV -> List AV -> Option (List AV × Option Nat))
 eat : Nat -> Option (Nat -> List AV -> List AV -> Option (List AV)) := fun _ => none
 loc : Nat -> Bool := fun _ => false
 emp : Nat -> Bool := fun _ => false
 mov : Nat -> Option Nat := fun _ => none

def fe : Nat := 1000000
def kV : Nat := 500000
def OO : Nat := 1000000
def tZ (b j : Nat) : Nat := b + (j + 1) * OO
def Ld (b x : Nat) : Bool := decide (OO <= x) && (decide (b <= x) && decide ((x - b) % OO = 0))
def mu (b : Nat) : List Nat -> Bool
 | [] => false
 | x :: r => decide (x = b) || (Ld b x || mu b r)
def marks : List Nat -> List Nat
 | [] => []
 | i :: r => (i + kV) :: marks r

/-! Values -/
mutual
def cN (g : AV -> AV) : AV -> AV
 | .dG k p off len => g (.dG k p off len)
 | .fa k p i off => g (.fa k p i off)
 | .agg cs => .agg (de g cs)
 | .dB cs => .dB (de g cs)
 | .func f a b => .func f (de g a) (de g b)
 | .any => .any | .undef => .undef | .fy => .fy | .fD => .fD | .dz => .dz
 | .int k n => .int k n | .bool b => .bool b | .str s => .str s
 | .list k xs => .list k xs | .dw cs => .dw cs | .ptr b off => .ptr b off | .sl k b off len => .sl k b off len
 | .own k xs => .own k xs
def de (g : AV -> AV) : List AV -> List AV
 | [] => []
 | x :: r => cN g x :: de g r
end
mutual
def aP : AV -> List Rt
 | .dG _ p _ _ => [p]
 | .fa _ p _ _ => [p]
 | .agg cs => dh cs
 | .dB cs => dh cs
 | .func _ a b => dh a ++ dh b
 | _ => []
def dh : List AV -> List Rt
 | [] => []
 | x :: r => aP x ++ dh r
end
mutual
def pl : AV -> Bool
 | .own _ _ | .dG _ _ _ _ | .fa _ _ _ _ | .ptr _ _ | .sl _ _ _ _ => false
 | .agg cs => gz cs
 | .dB cs => gz cs
 | .func _ a b => gz a && gz b
 | _ => true
def gz : List AV -> Bool
 | [] => true
 | x :: r => pl x && gz r
end
def fz (x : AV) : Bool := x.leaf && pl x
def N3 : List AV -> Bool
 | [] => true
 | x :: r => fz x && N3 r
def bK : List AV -> Bool
 | [] => false
 | .own _ _ :: _ => true
 | _ :: r => bK r
def bJ : AV -> Bool
 | .own _ _ => true
 | .agg cs => bK cs
 | _ => false
mutual
def clean : AV -> Bool
 | .list _ xs => xs.isEmpty
 | .dw _ | .any | .func _ _ _ | .dG _ _ _ _ | .fa _ _ _ _ | .ptr _ _ | .sl _ _ _ _ => false
 | .own _ xs => fU xs
 | .agg cs => fU cs
 | .dB cs => fU cs
 | _ => true
def fU : List AV -> Bool
 | [] => true
 | x :: r => clean x && fU r
end

/-! Places -/
def eM (f : Nat -> Rt) : Nat -> List AV -> List AV
 | _,[] => []
 | j,.own k xs :: r => .dG k (f j) 0 xs.length :: eM f (j + 1) r
 | j,x :: r => x :: eM f (j + 1) r
def eW (i : Nat) : AV -> AV
 | .own k xs => .dG k (.s i) 0 xs.length
 | .agg cs => .agg (eM (.sc i) 0 cs)
 | v => v
def at_ (s : St) : Rt -> Option AV
 | .s i => some (get s.env i)
 | .sc i j => match get s.env i with
   | .agg cs => cs[j]?
   | _ => none
 | .c b j => match aN s.H b with
   | some cs => cs[j]?
   | none => none
def aC (s : St) (p : Rt) : Option (Nat × List AV) :=
 match at_ s p with
 | some (.own k xs) => some (k,xs)
 | _ => none
def setAt (s : St) (p : Rt) (v : AV) : St :=
 match p with
 | .s i => ⟨put s.env i v,s.H⟩
 | .sc i j => match get s.env i with
   | .agg cs => ⟨put s.env i (.agg (cs.set j v)),s.H⟩
   | _ => s
 | .c b j => match aN s.H b with
   | some cs => ⟨s.env,s.H.set b (some (cs.set j v))⟩
   | none => s
def j7 (g : AV -> AV) : Env -> Env
 | [] => []
 | (i,v) :: r => (i,cN g v) :: j7 g r
def ft (g : AV -> AV) : Heap -> Heap
 | [] => []
 | none :: r => none :: ft g r
 | some cs :: r => some (de g cs) :: ft g r
def cz (g : AV -> AV) (s : St) : St := ⟨j7 g s.env,ft g s.H⟩

def sw (p : Rt) : AV -> AV
 | .dG k q off len => if q = p then .any else .dG k q off len
 | .fa k q i off => if q = p then .any else .fa k q i off
 | v => v
def rt (p q : Rt) (n : Nat) : AV -> AV
 | .dG k r off len => if r = p then (if off + len <= n then .dG k q off len else .any) else .dG k r off len
 | .fa k r i off => if r = p then (if i < n then .fa k q i off else .any) else .fa k r i off
 | v => v
def fb (p : Rt) (k : Nat) (xs : List AV) : AV -> AV
 | .dG k' q off len => if q = p then (if k' = k /\ off + len <= xs.length then .list k ((xs.drop off).take len) else .any) else .dG k' q off len
 | .fa k' q i off => if q = p then (if k' = k then match xs[i]? with
   | some x => .dw (x.cells.drop off)
   | none => .any
   else .any) else .fa k' q i off
 | v => v
def Gr (s : St) (p : Rt) : St :=
 match aC s p with
 | some (k,xs) => setAt (cz (fb p k xs) s) p (.list k xs)
 | none => s
def dR : List Rt -> St -> St
 | [],s => s
 | p :: r,s => dR r (Gr s p)

def aal (p : Rt) (q : Rt) : AV -> Option Rt
 | .dG _ r _ _ => if r = p then some q else none
 | _ => none
def borC (p : Rt) (f : Nat -> Rt) : Nat -> List AV -> Option Rt
 | _,[] => none
 | j,x :: r => match aal p (f j) x with
   | some y => some y
   | none => borC p f (j + 1) r
def borS (p : Rt) (i : Nat) : AV -> Option Rt
 | .agg cs => borC p (.sc i) 0 cs
 | v => aal p (.s i) v
def borE (p : Rt) : Env -> Option Rt
 | [] => none
 | (i,v) :: r => match borS p i v with
   | some y => some y
   | none => borE p r
def WE (p : Rt) : Nat -> Heap -> Option Rt
 | _,[] => none
 | b,none :: r => WE p (b + 1) r
 | b,some cs :: r => match borC p (.c b) 0 cs with
   | some y => some y
   | none => WE p (b + 1) r
def Ob (p : Rt) (s : St) : Option Rt :=
 match borS p fe (get s.env fe) with
 | some y => some y
 | none => match borE p s.env with
   | some y => some y
   | none => WE p 0 s.H
def rel (s : St) (p : Rt) : St :=
 match aC s p with
 | none => s
 | some (k,xs) => match Ob p s with
   | none => setAt (cz (sw p) s) p .any
   | some q => match at_ s q with
     | some (.dG _ r 0 len) => if r = p then setAt (setAt (cz (rt p q len) s) p .any) q (.own k (xs.take len)) else Gr s p
     | _ => Gr s p
def Ho (i : Nat) : Nat -> List AV -> St -> St
 | _,[],s => s
 | j,.own _ _ :: r,s => Ho i (j + 1) r (rel s (.sc i j))
 | j,_ :: r,s => Ho i (j + 1) r s
def zU (s : St) (i : Nat) : St :=
 match get s.env i with
 | .own _ _ => rel s (.s i)
 | .agg cs => Ho i 0 cs s
 | _ => s
def mY (keep : List Nat) : Env -> St -> St
 | [],s => s
 | (i,_) :: r,s => mY keep r (if mem i keep then s else zU s i)
def qP (keep : List Nat) : Env -> Bool
 | [] => false
 | (i,v) :: r => (!mem i keep && bJ v) || qP keep r

def jN (i d : Nat) : Rt -> Rt
 | .s j => if j = i then .s d else .s j
 | .sc j l => if j = i then .sc d l else .sc j l
 | .c b j => .c b j
def VS (i d : Nat) : AV -> AV
 | .dG k p off len => .dG k (jN i d p) off len
 | .fa k p l off => .fa k (jN i d p) l off
 | v => v
def Lr (s : St) (d : Nat) : St :=
 let s1 := cz (VS fe d) s
 ⟨put (put s1.env fe .any) d (get s1.env fe),s1.H⟩
def vH (f : Rt -> Bool) : List Rt -> Bool
 | [] => false
 | p :: r => f p || vH f r
def GY (f : Rt -> Bool) : Env -> Bool
 | [] => false
 | (_,v) :: r => vH f (aP v) || GY f r
def CI (f : Rt -> Bool) : Heap -> Bool
 | [] => false
 | none :: r => CI f r
 | some cs :: r => vH f (dh cs) || CI f r
def GZ (f : Rt -> Bool) (s : St) (v : AV) : Bool := vH f (aP v) || (GY f s.env || CI f s.H)
def bD (d : Nat) : Rt -> Bool
 | .s i => decide (i = d)
 | .sc i _ => decide (i = d)
 | .c _ _ => false
def cW (b off k : Nat) : Rt -> Bool
 | .c c j => decide (c = b) && (decide (off <= j) && decide (j < off + k))
 | _ => false
def Mj (s : St) (d : Nat) (v : AV) : Bool := bJ (get s.env d) && GZ (bD d) s v
def Vz (s : St) (d : Nat) (v : AV) : Option St :=
 if Mj s d v then
  match get s.env fe with
  | .any => if bJ (get (zU ⟨put s.env fe v,s.H⟩ d).env d) then none else some (Lr (zU ⟨put s.env fe v,s.H⟩ d) d)
  | _ => none
 else some ⟨put s.env d v,s.H⟩
def xc (s : St) (d : Option Nat) (v : AV) : Option St :=
 match d with
 | some d => Vz s d v
 | none => some s

/-! Boxes that nobody refers to -/
mutual
def mj (b : Nat) : AV -> Bool
 | .ptr c _ => decide (c ≠ b)
 | .sl _ c _ _ => decide (c ≠ b)
 | .dG _ (.c d _) _ _ => decide (d ≠ b)
 | .fa _ (.c d _) _ _ => decide (d ≠ b)
 | .agg cs => jq b cs
 | .dB cs => jq b cs
 | .func _ x y => jq b x && jq b y
 | _ => true
def jq (b : Nat) : List AV -> Bool
 | [] => true
 | x :: r => mj b x && jq b r
end
def qd (b : Nat) : Env -> Bool
 | [] => true
 | (_,v) :: r => mj b v && qd b r
def mG (b : Nat) : Heap -> Bool
 | [] => true
 | none :: r => mG b r
 | some cs :: r => jq b cs && mG b r
def trim (base : Nat) (env : Env) : Nat -> Heap -> Heap
 | 0,H => H
 | n + 1,H => if base <= n /\ H.length = n + 1 /\ qd n env = true /\ mG n (H.take n) = true then trim base env n (H.take n) else H
def ZU (base : Nat) (keep : List Nat) (s : St) : St := ⟨qf keep s.env,trim base (qf keep s.env) s.H.length s.H⟩
def QC (base : Nat) (keep : List Nat) (s : St) : Option St :=
 if qP keep s.env then
  if qP keep (mY keep s.env s).env then none else some (ZU base keep (mY keep s.env s))
 else some (ZU base keep s)

/-! Operations -/
def bt (c : eE) (env : Env) : E -> AV
 | .t i => eW i (get env i)
 | .k x => x
 | .g i => .dw (c.gl i)
def dE (c : eE) (env : Env) : List E -> List AV
 | [] => []
 | x :: r => bt c env x :: dE c env r
def cont (s : St) (k : Nat) : AV -> Option (List AV)
 | .list k' xs => if k' = k then some xs else none
 | .own _ [] => some []
 | .dG k' p off len => match aC s p with
   | some (wu,xs) => if k' = k /\ wu = k /\ off + len <= xs.length then some ((xs.drop off).take len) else none
   | none => none
 | _ => none
def N8 : AV -> Option AV
 | .own k xs => some (.list k xs)
 | x => if fz x then some x else none
def si : List AV -> Option (List AV)
 | [] => some []
 | x :: r => match N8 x,si r with
   | some y,some ys => some (y :: ys)
   | _,_ => none
def N6 (s : St) (k b off len : Nat) : Option AV :=
 match aN s.H b with
 | some cs => if k = 1 /\ off + len <= cs.length then match si ((cs.drop off).take len) with
   | some ys => some (.list 1 ys)
   | none => none
   else none
 | none => none
mutual
def kS (sh : Bool) (s : St) : AV -> Option AV
 | .dG k p off len => match aC s p with
   | some (k',xs) => if k' = k /\ off + len <= xs.length then some (.list k ((xs.drop off).take len)) else none
   | none => none
 | .own _ _ => none
 | .agg cs => match CG sh s cs with
   | some ds => some (.agg ds)
   | none => none
 | .dB cs => match CG sh s cs with
   | some ds => some (.dB ds)
   | none => none
 | .func f a b => match CG sh s a,CG sh s b with
   | some a',some b' => some (.func f a' b')
   | _,_ => none
 | .ptr b off => if sh then some (.ptr b off) else none
 | .fa _ _ _ _ => none
 | .sl _ _ _ _ => none
 | .any => none
 | x => some x
def CG (sh : Bool) (s : St) : List AV -> Option (List AV)
 | [] => some []
 | x :: r => match kS sh s x,CG sh s r with
   | some y,some ys => some (y :: ys)
   | _,_ => none
end
mutual
def Qy (s : St) : AV -> Option AV
 | .sl k b off len => N6 s k b off len
 | .dB cs => match Jn s cs with
   | some ds => some (.dB ds)
   | none => none
 | x => kS false s x
def Jn (s : St) : List AV -> Option (List AV)
 | [] => some []
 | x :: r => match Qy s x,Jn s r with
   | some y,some ys => some (y :: ys)
   | _,_ => none
end
def fi : AV -> AV
 | .own k [] => .list k []
 | v => v
def s4 (s : St) : List AV -> Option (List AV)
 | [] => some []
 | .own k [] :: r => match s4 s r with
   | some ys => some (.list k [] :: ys)
   | none => none
 | .sl k b off len :: r => match N6 s k b off len,s4 s r with
   | some y,some ys => some (y :: ys)
   | _,_ => none
 | x :: r => match kS false s x,s4 s r with
   | some y,some ys => some (y :: ys)
   | _,_ => none
def Dv : List AV -> List Rt
 | [] => []
 | .sl _ b _ _ :: r => .c b 1 :: Dv r
 | _ :: r => Dv r
mutual
def ko : AV -> Bool
 | .own _ _ | .dG _ _ _ _ | .fa _ _ _ _ => false
 | .agg cs => fQ cs
 | .dB cs => fQ cs
 | .func _ a b => fQ a && fQ b
 | _ => true
def fQ : List AV -> Bool
 | [] => true
 | x :: r => ko x && fQ r
end
def sW : AV -> Option Nat
 | .dz => some 0
 | .own _ [] => some 0
 | .list _ xs => some xs.length
 | .dG _ _ _ len => some len
 | .sl _ _ _ len => some len
 | _ => none
def yk (c : eE) (env : Env) (dflt hi : Nat) : Option E -> Option Nat
 | none => some dflt
 | some x => bnd (bt c env x) hi
def oY (c : eE) (env : Env) : List AV -> List (Nat × Nat × E) -> Option (List AV)
 | zs,[] => some zs
 | zs,(off,sz,x) :: r =>
   if (bt c env x).cells.length = sz /\ off + sz <= zs.length /\ bz (bt c env x).cells = true then oY c env (jv zs off (bt c env x).cells) r else none
def iq : Et -> AV -> Option Bool
 | .PM,.dz => some true
 | .PM,.dG _ _ _ len => if len = 0 then none else some false
 | .PM,.list _ (_ :: _) => some false
 | .PM,.sl _ _ _ _ => some false
 | .FE,.fy => some true
 | .FE,.ptr _ _ => some false
 | .FE,.dw _ => some false
 | .nfn,.fD => some true
 | .nfn,.func _ _ _ => some false
 | _,_ => none
def eqB : Et -> AV -> AV -> Option Bool
 | .bool,.bool a,.bool b => some (a == b)
 | .str l,.agg xs,.agg ys => zT l xs ys
 | .PM,x,.own _ [] => iq .PM x
 | .PM,x,.dz => iq .PM x
 | .FE,x,.fy => iq .FE x
 | .nfn,x,.fD => iq .nfn x
 | _,_,_ => none
def J3 (ag : Option Nat) (cs : List AV) : Option AV :=
 match Al ag cs with
 | some v => if bJ v then none else some v
 | none => none
def PE (c : eE) (env : Env) : Kd -> Option AV
 | .mv x => some (bt c env x)
 | .pick t a b => match bt c env t with
   | .bool t => some (if t then bt c env a else bt c env b)
   | _ => none
 | .build zs ps => match oY c env zs ps with
   | some cs => some (.agg cs)
   | none => none
 | .lK x => match bt c env x with
   | .ptr b off => some (.ptr b off)
   | .dw cs => some (.dw cs)
   | .func (.func f) a b => some (.func (.func f) a b)
   | _ => none
 | .bin op x y => jz op (bt c env x) (bt c env y)
 | .eq ng t x y => match eqB t (bt c env x) (bt c env y) with
   | some e => some (.bool (if ng then !e else e))
   | none => none
 | .un op x => Pg op (bt c env x)
 | .Ci k x => match bt c env x with
   | .int _ n => some (.int k (k.wrap n))
   | _ => none
 | .OS fn a b => if bK (dE c env a ++ dE c env b) then none else some (.func fn (dE c env a) (dE c env b))
 | .yG k x lo hi => match sW (bt c env x) with
   | some n => match yk c env n n hi with
     | some h => match yk c env 0 h lo with
       | some l => match bt c env x with
         | .own k' xs => if k' = k then some (.own k xs) else none
         | .list k' xs => if k' = k then some (.list k ((xs.take h).drop l)) else none
         | .dG k' p off _ => if k' = k then some (.dG k p (off + l) (h - l)) else none
         | .sl k' b off _ => if k' = k then some (.sl k b (off + l * k) (h - l)) else none
         | _ => none
       | none => none
     | none => none
   | none => none
 | .fX off x => match bt c env x with
   | .ptr b o => some (.ptr b (o + off))
   | .dw cs => some (.dw (cs.drop off))
   | .fa k p i o => some (.fa k p i (o + off))
   | _ => none
 | .HK n x hi => match hi with
   | none => match bt c env x with
     | .dw cs => if n <= cs.length /\ bz (cs.take n) = true then some (.list 1 (cs.take n)) else none
     | _ => none
   | some _ => none
 | .Wi off ag x => match bt c env x with
   | .agg cs => J3 ag (cs.drop off)
   | _ => none
 | .fO k x i => match bt c env x with
   | .list k' xs => match idx (bt c env i) xs.length with
     | some j => if k' = k then match xs[j]? with
       | some v => some (.dw v.cells)
       | none => none
       else none
     | none => none
   | .dG k' p off len => match idx (bt c env i) len with
     | some j => if k' = k then some (.fa k p (off + j) 0) else none
     | none => none
   | .sl k' b off len => match idx (bt c env i) len with
     | some j => if k' = k then some (.ptr b (off + j * k)) else none
     | none => none
   | _ => none
 | .Cy n k x i => match idx (bt c env i) n with
   | some j => match bt c env x with
     | .ptr b off => some (.ptr b (off + j * k))
     | .dw cs => some (.dw (cs.drop (j * k)))
     | .fa k' p l off => some (.fa k' p l (off + j * k))
     | _ => none
   | none => none
 | .ix n k ag x i => match idx (bt c env i) n with
   | some j => match bt c env x with
     | .agg cs => J3 ag (cs.drop (j * k))
     | _ => none
   | none => none
 | .VY tab i => match idx (bt c env i) tab.length with
   | some j => match tab[j]? with
     | some v => some (.int .u8 v)
     | none => none
   | none => none
 | .ext i x => match bt c env x with
   | .dB vs => match vs[i]? with
     | some v => if bJ v then none else some v
     | none => none
   | _ => none
 | .len x => match sW (bt c env x) with
   | some n => some (.int .i64 n)
   | none => none
 | .min xs => wO false (dE c env xs)
 | .max xs => wO true (dE c env xs)
 | _ => none

def gW (c : eE) (env : Env) : List (Nat × Nat × E) -> List Rt
 | [] => []
 | (_,_,x) :: r => aP (bt c env x) ++ gW c env r
inductive Fq where
 | no | rc (b j : Nat) | rd (ps : List Rt) | al (n : Nat) | wr (sl : List Nat) (bs : Option (List Nat)) | all | sp | bo (ps : List Rt) | lw (b : Nat)
 deriving Inhabited
def vl (p : Rt) : List Rt -> Bool
 | [] => false
 | q :: r => decide (q = p) || vl p r
def isRoot (p : Rt) (i : Nat) : Bool :=
 match p with
 | .s j => decide (j = i)
 | .sc j _ => decide (j = i)
 | .c _ _ => false
def kX (p : Rt) : Env -> List Nat
 | [] => []
 | (i,v) :: r => if vl p (aP v) || isRoot p i then i :: kX p r else kX p r
def pJ (p : Rt) : Nat -> Heap -> List Nat
 | _,[] => []
 | b,none :: r => pJ p (b + 1) r
 | b,some cs :: r => if vl p (dh cs) then b :: pJ p (b + 1) r else pJ p (b + 1) r
def fx : List Rt -> Bool
 | [] => false
 | .c _ _ :: _ => true
 | _ :: r => fx r
def gg : Env -> List Nat
 | [] => []
 | (i,v) :: r => if fx (aP v) then i :: gg r else gg r
def L8 (k : Nat) (x : AV) (off : Nat) (vs : List AV) : AV := if off = 0 /\ vs.length = k then el vs else el (jv x.cells off vs)
def xM (s : St) (ag : Option Nat) : AV -> Option (AV × List Rt)
 | .dw cs => match J3 ag cs with
   | some v => some (v,[])
   | none => none
 | .ptr b off => match aN s.H b with
   | some cs => match J3 ag ((eM (.c b) 0 cs).drop off) with
     | some v => some (v,[.c b (if (aP v).isEmpty then 1 else 0)])
     | none => none
   | none => none
 | .fa k p i off => match aC s p with
   | some (k',xs) => if k' = k then match xs[i]? with
     | some x => match J3 ag (x.cells.drop off) with
       | some v => some (v,[p])
       | none => none
     | none => none
     else none
   | none => none
 | _ => none
def xx (b : Nat) : Nat -> Nat -> St -> St
 | _,0,s => s
 | j,n + 1,s => xx b (j + 1) n (match aC s (.c b j) with
   | some _ => rel s (.c b j)
   | none => s)
def iC (i b off : Nat) : Rt -> Rt
 | .s j => if j = i then .c b off else .s j
 | .sc j l => if j = i then .c b (off + l) else .sc j l
 | .c d j => .c d j
def je (i b off : Nat) : AV -> AV
 | .dG k p o len => .dG k (iC i b off p) o len
 | .fa k p l o => .fa k (iC i b off p) l o
 | v => v
def qQ (s : St) (b off k : Nat) : Option St :=
 match aN (cz (je fe b off) s).H b with
 | some cs => if (get (cz (je fe b off) s).env fe).cells.length = k /\ off + k <= cs.length /\ bK ((cs.drop off).take k) = false /\ bz (get (cz (je fe b off) s).env fe).cells = true then
   some ⟨put (cz (je fe b off) s).env fe .any,(cz (je fe b off) s).H.set b (some (jv cs off (get (cz (je fe b off) s).env fe).cells))⟩
   else none
 | none => none
def wR (s : St) (b off k : Nat) (v : AV) : Option (St × Fq) :=
 match aN s.H b with
 | some cs => if v.cells.length = k /\ off + k <= cs.length /\ bz v.cells = true then
   if bK ((cs.drop off).take k) && GZ (cW b off k) s v then
    match get s.env fe with
    | .any => match qQ (xx b off k ⟨put s.env fe v,s.H⟩) b off k with
      | some s' => some (s',.all)
      | none => none
    | _ => none
   else some (⟨s.env,s.H.set b (some (jv cs off v.cells))⟩,.wr [] (some [b]))
   else none
 | none => none
def rootOf : Rt -> List Nat
 | .s i => [i]
 | .sc i _ => [i]
 | .c _ _ => []
def kz : Rt -> List Nat
 | .c b _ => [b]
 | _ => []
def Us : Rt -> List Nat
 | .c b _ => [tZ b 99999]
 | _ => []
def OR (s : St) (k : Nat) (a v : AV) : Option (St × Fq) :=
 match a with
 | .ptr b off => wR s b off k v
 | .fa k' p i off => match aC s p with
   | some (wu,xs) => if wu = k' then match xs[i]? with
     | some x => if v.cells.length = k /\ off + k <= k' /\ N3 v.cells = true then some (setAt s p (.own k' (xs.set i (L8 k' x off v.cells))),.wr (marks (rootOf p)) (some (Us p))) else none
     | none => none
     else none
   | none => none
 | _ => none

def l6 : AV -> AV
 | .dG _ (.c _ _) _ _ => .any
 | .fa _ (.c _ _) _ _ => .any
 | x => x
def dQ : Rt -> Bool
 | .c _ _ => false
 | _ => true
def jt : Heap -> Bool
 | [] => true
 | none :: _ => false
 | some cs :: r => !vH dQ (dh cs) && jt r
def mg : AV -> AV
 | .dG k (.c b j) off len => .dG k (.c b j) off len
 | .fa k (.c b j) i off => .fa k (.c b j) i off
 | .dG _ _ _ _ => .any
 | .fa _ _ _ _ => .any
 | x => x
def fnE : Fn -> Fn -> Bool
 | .func f,y => match y with | .func g => kr f g | _ => false
 | _,_ => false
mutual
def qB : AV -> AV -> Bool
 | .any,y => match y with | .any => true | _ => false
 | .undef,y => match y with | .undef => true | _ => false
 | .fy,y => match y with | .fy => true | _ => false
 | .fD,y => match y with | .fD => true | _ => false
 | .dz,y => match y with | .dz => true | _ => false
 | .int k n,y => match y with | .int k' n' => decide (k = k') && decide (n = n') | _ => false
 | .bool b,y => match y with | .bool b' => b == b' | _ => false
 | .str _,_ => false
 | .agg x,y => match y with | .agg x' => kB x x' | _ => false
 | .dB x,y => match y with | .dB x' => kB x x' | _ => false
 | .list k x,y => match y with | .list k' x' => kr k k' && kB x x' | _ => false
 | .dw x,y => match y with | .dw x' => kB x x' | _ => false
 | .ptr b o,y => match y with | .ptr b' o' => kr b b' && kr o o' | _ => false
 | .sl k b o l,y => match y with | .sl k' b' o' l' => (kr k k' && kr b b') && (kr o o' && kr l l') | _ => false
 | .func f a b,y => match y with | .func f' a' b' => fnE f f' && (kB a a' && kB b b') | _ => false
 | .own k x,y => match y with | .own k' x' => kr k k' && kB x x' | _ => false
 | .dG k p o l,y => match y with | .dG k' p' o' l' => (kr k k' && decide (p = p')) && (kr o o' && kr l l') | _ => false
 | .fa k p i o,y => match y with | .fa k' p' i' o' => (kr k k' && decide (p = p')) && (kr i i' && kr o o') | _ => false
def kB : List AV -> List AV -> Bool
 | [],y => match y with | [] => true | _ => false
 | a :: r,y => match y with | b :: s => qB a b && kB r s | _ => false
end
theorem agQ : ∀ {f g : Fn},fnE f g = true -> f = g := by
 intro f g h;cases f <;> cases g <;> simp only [fnE,bn] at h
 rw [cB h]
mutual
theorem ahe : ∀ (a b : AV),qB a b = true -> a = b
 | .any,b,h => by cases b <;> first | rfl | (simp [qB] at h; done)
 | .undef,b,h => by cases b <;> first | rfl | (simp [qB] at h; done)
 | .fy,b,h => by cases b <;> first | rfl | (simp [qB] at h; done)
 | .fD,b,h => by cases b <;> first | rfl | (simp [qB] at h; done)
 | .dz,b,h => by cases b <;> first | rfl | (simp [qB] at h; done)
 | .int k n,b,h => by
   cases b <;> first | (simp [qB] at h; done) | skip
   simp only [qB,ae,decide_eq_true_eq] at h;rw [h.1,h.2]
 | .bool x,b,h => by
   cases b <;> first | (simp [qB] at h; done) | skip
   simp only [qB,beq_iff_eq] at h;rw [h]
 | .str _,b,h => by simp [qB] at h
 | .agg x,b,h => by
   cases b <;> first | (simp [qB] at h; done) | skip
   simp only [qB] at h;rw [nf _ _ h]
 | .dB x,b,h => by
   cases b <;> first | (simp [qB] at h; done) | skip
   simp only [qB] at h;rw [nf _ _ h]
 | .dw x,b,h => by
   cases b <;> first | (simp [qB] at h; done) | skip
   simp only [qB] at h;rw [nf _ _ h]
 | .list k x,b,h => by
   cases b <;> first | (simp [qB] at h; done) | skip
   simp only [qB,ae] at h;rw [cB h.1,nf _ _ h.2]
 | .own k x,b,h => by
   cases b <;> first | (simp [qB] at h; done) | skip
   simp only [qB,ae] at h;rw [cB h.1,nf _ _ h.2]
 | .ptr k x,b,h => by
   cases b <;> first | (simp [qB] at h; done) | skip
   simp only [qB,ae] at h;rw [cB h.1,cB h.2]
 | .sl k x y z,b,h => by
   cases b <;> first | (simp [qB] at h; done) | skip
   simp only [qB,ae] at h;rw [cB h.1.1,cB h.1.2,cB h.2.1,cB h.2.2]
 | .func f x y,b,h => by
   cases b <;> first | (simp [qB] at h; done) | skip
   simp only [qB,ae] at h;rw [agQ h.1,nf _ _ h.2.1,nf _ _ h.2.2]
 | .dG k x y z,b,h => by
   cases b <;> first | (simp [qB] at h; done) | skip
   simp only [qB,ae,decide_eq_true_eq] at h;rw [cB h.1.1,h.1.2,cB h.2.1,cB h.2.2]
 | .fa k x y z,b,h => by
   cases b <;> first | (simp [qB] at h; done) | skip
   simp only [qB,ae,decide_eq_true_eq] at h;rw [cB h.1.1,h.1.2,cB h.2.1,cB h.2.2]
theorem nf : ∀ (x y : List AV),kB x y = true -> x = y
 | [],y,h => by cases y <;> first | rfl | (simp [kB] at h; done)
 | a :: r,y,h => by
   cases y with
   | nil => simp [kB] at h
   | cons b s =>
     simp only [kB,ae] at h;rw [ahe _ _ h.1,nf _ _ h.2]
end
def ym : Q2 -> Q2 -> Bool
 | none,y => match y with | none => true | some _ => false
 | some x,y => match y with | some x' => kB x x' | none => false
theorem acO {x y : Q2} (h : ym x y = true) : x = y := by
 cases x <;> cases y <;> simp only [ym,bn] at h
 ·rfl
 ·rw [nf _ _ h]
mutual
def AH : AV -> List Nat
 | .ptr b _ => [b]
 | .sl _ b _ _ => [b]
 | .agg cs => jJ cs
 | .dB cs => jJ cs
 | .func _ a b => jJ a ++ jJ b
 | _ => []
def jJ : List AV -> List Nat
 | [] => []
 | x :: r => AH x ++ jJ r
end
def nN : Q2 -> Bool
 | some cs => !bK cs && (dh cs).isEmpty
 | none => false
def eL (l : List Nat) : Nat -> Heap -> Heap -> Option (List Nat)
 | _,[],[] => some []
 | b,x :: H,y :: H' => match eL l (b + 1) H H' with
   | some r => if mem b l then some r else if ym x y then some (if nN x then r else (b + kV) :: r) else none
   | none => none
 | _,_,_ => none
def kj (l : List Nat) : Option (List Nat) -> Option (List Nat)
 | some r => some (l ++ r)
 | none => none
mutual
def TH : AV -> AV
 | .dG k p off n => if n = 0 then .list k [] else .dG k p off n
 | .agg cs => .agg (zz cs)
 | v => v
def zz : List AV -> List AV
 | [] => []
 | x :: r => TH x :: zz r
end
def nI (c : eE) (env : Env) : Kd -> Option (Nat × List AV)
 | .call f args => some (f,dE c env args)
 | .jc x args => match bt c env x with
   | .func (.func f) a b => if bK a || bK b then none else some (f,a ++ dE c env args ++ b)
   | _ => none
 | _ => none
def getArgs (c : eE) (env : Env) (kd : Kd) : Option (Nat × List AV) :=
 match nI c env kd with
 | some (f,args) => some (f,if c.emp f = true then zz args else args)
 | none => none
def MN (r : AV) : Bool := clean r && (match r with
 | .own _ _ => true
 | r => !bJ r)
def lR (s : St) : List Rt -> Fq
 | [p] => match aC s p with
   | some _ => .wr (kX p s.env) (some (kz p ++ pJ p 0 s.H))
   | none => .all
 | _ => .all
def dU (c : eE) (call : Nat -> List AV -> Heap -> Option (AV × Heap)) (kd : Kd) (s : St) : Option (AV × St × Fq) :=
 match getArgs c s.env kd with
 | none => none
 | some (f,args) => match c.fn f with
   | none => none
   | some (md,_) =>
     if md.cl && !md.sh then
      match s4 s args with
      | none => none
      | some qU => match call f qU [] with
        | some (r,_) => if MN r then some (r,s,if (dh args ++ Dv args).isEmpty then .no else .rd (dh args ++ Dv args)) else none
        | none => none
     else match getArgs c (dR (dh args) s).env kd with
      | none => none
      | some (f1, nO) => if f1 = f then
           if md.sh then
            if fQ (nO.map fi) && jt (dR (dh args) s).H then match call f (nO.map fi) (dR (dh args) s).H with
              | some (r,H') => if ((aP r).isEmpty && !bJ r) && jt H' then some (r,⟨j7 l6 (dR (dh args) s).env,H'⟩,if (dh args).isEmpty then .wr (gg s.env) (kj (jJ nO) (eL (jJ nO) 0 (dR (dh args) s).H H')) else .all) else none
              | none => none
            else none
           else if gz (nO.map fi) then match call f (nO.map fi) [] with
            | some (r,_) => if pl r then some (r,dR (dh args) s,if (dh args).isEmpty then .no else lR s (dh args)) else none
            | none => none
           else none
        else none

def V3 (k : Nat) (p : Rt) : Option Nat -> AV
 | none => .dB []
 | some m => .dG k p 0 m
def inpL (k : Nat) : Option Nat -> AV
 | none => .dB []
 | some _ => .list k []
def Hw (k b : Nat) : Option Nat -> AV
 | none => .dB []
 | some m => .sl k b 0 m
def cellOf : Rt -> List Nat
 | .c b j => [tZ b j]
 | _ => []
def xw : List Rt -> List Nat
 | [] => []
 | p :: r => rootOf p ++ xw r
def aiT (s : St) (p : Rt) : AV -> Option AV
 | .int k n => some (.int k n)
 | .dG k q off len => if q = p then none else match aC s q with
   | some (k',xs) => if k' = k /\ off + len <= xs.length /\ fU xs = true then some (.list k ((xs.drop off).take len)) else none
   | none => none
 | _ => none
def isFn : AV -> Bool
 | .func _ _ _ => true
 | _ => false
def aeL : List AV -> Bool
 | [] => false
 | x :: r => isFn x || aeL r
def QD (s : St) (g : Nat -> List AV -> List AV -> Option (List AV)) (x : AV) (es : List AV) : Option (AV × St × Fq) := none
def oP (c : eE) (s : St) : Kd -> Option (Option (AV × St × Fq))
 | .call f (x :: es) => match c.inp f with
   | none => match c.eat f with
     | none => none
     | some g => some (QD s g (bt c s.env x) (dE c s.env es))
   | some g => some (match bt c s.env x with
     | .list k [] => if gz (dE c s.env es) = true then match g k [] (dE c s.env es) with
       | some (_,res) => some (inpL k res,s,.wr [] (some []))
       | none => none
       else none
     | .dG k p 0 len => match aC s p with
       | some (k',xs) => if k' = k /\ len <= xs.length /\ gz (dE c s.env es) = true then
         match g k (xs.take len) (dE c s.env es) with
         | some (ys,res) => some (V3 k p res,setAt s p (.own k (ys ++ xs.drop len)),.wr (rootOf p) (some (kz p)))
         | none => none
         else none
       | none => none
     | .sl k b 0 len => match aN s.H b with
       | some cs => if k = 1 /\ len <= cs.length /\ N3 cs = true /\ gz (dE c s.env es) = true then
         match g k (cs.take len) (dE c s.env es) with
         | some (ys,res) => some (Hw k b res,⟨s.env,s.H.set b (some (aH ys ++ cs.drop len))⟩,.all)
         | none => none
         else none
       | none => none
     | _ => none)
 | _ => none
def VX (c : eE) (call : Nat -> List AV -> Heap -> Option (AV × Heap)) (s : St) (f : Nat) (es : List AV) : AV -> Option (AV × St × Fq)
 | .ptr b 0 => match c.fn f,aN s.H b with
   | some (md,_),some cs => if md.sh = true /\ gz es = true /\ gz cs = true then match call f (.ptr 0 0 :: es) [some cs] with
     | some (r,[some cs']) => if pl r = true /\ gz cs' = true then some (r,⟨s.env,s.H.set b (some cs')⟩,.lw b) else none
     | _ => none
     else none
   | _,_ => none
 | _ => none
def l7 (c : eE) (call : Nat -> List AV -> Heap -> Option (AV × Heap)) (s : St) : Kd -> Option (Option (AV × St × Fq))
 | .call f (x :: es) => if c.loc f = true then some (VX c call s f (dE c s.env es) (bt c s.env x)) else none
 | _ => none
def M0 (c : eE) (call : Nat -> List AV -> Heap -> Option (AV × Heap)) (f i : Nat) (s1 : St) (xs : List AV) : Option (AV × St × Fq) := none
def q8 (c : eE) (call : Nat -> List AV -> Heap -> Option (AV × Heap)) (s : St) : Kd -> Option (Option (AV × St × Fq))
 | .call f es => match c.mov f with
   | some i => some (M0 c call f i (dR (dh ((dE c s.env es).set i .undef)) s) (dE c (dR (dh ((dE c s.env es).set i .undef)) s).env es))
   | none => none
 | _ => none
def Cr : Nat -> List AV -> Option (Nat × Nat × Nat × Nat)
 | _,[] => none
 | i,.sl k b off len :: r => if k = 1 then some (i,b,off,len) else Cr (i + 1) r
 | i,_ :: r => Cr (i + 1) r
def Ag (c : eE) (call : Nat -> List AV -> Heap -> Option (AV × Heap)) (s : St) (kd : Kd) : Option (AV × St × Fq) :=
 match getArgs c s.env kd with
 | none => none
 | some (f,args) => match c.fn f,Cr 0 args with
   | some (md,_),some (i,b,off,len) => match aN s.H b with
     | some cs => if ((md.cl = false /\ md.sh = false) /\ (off + len <= cs.length /\ N3 cs = true)) /\ gz ((args.map fi).set i .undef) = true then
         match call f ((args.map fi).set i (.list 1 ((cs.drop off).take len))) [] with
         | some (r,_) => if pl r = true then some (r,⟨s.env,s.H.set b none⟩,.all) else none
         | none => none
       else none
     | none => none
   | _,_ => none
def qT (c : eE) (call : Nat -> List AV -> Heap -> Option (AV × Heap)) (kd : Kd) (s : St) : Option (AV × St × Fq) :=
 match dU c call kd s with
 | some x => some x
 | none => Ag c call s kd
def gq (c : eE) (call : Nat -> List AV -> Heap -> Option (AV × Heap)) (kd : Kd) (s : St) : Option (AV × St × Fq) :=
 match q8 c call s kd with
 | some r => r
 | none => qT c call kd s
def dA (c : eE) (call : Nat -> List AV -> Heap -> Option (AV × Heap)) (kd : Kd) (s : St) : Option (AV × St × Fq) :=
 match oP c s kd with
 | some r => r
 | none => match l7 c call s kd with
   | some r => r
   | none => gq c call kd s
def ldOK (x v : AV) : Bool := match x with
 | .ptr _ _ => true
 | _ => (aP v).isEmpty
def vk (x v : AV) (ps : List Rt) : Fq := match x,v with
 | .ptr b off,.dG _ (.c d j) _ _ => if d = b /\ j = off then .rc b off else .rd ps
 | _,_ => .rd ps
def WC : List AV -> Option (List AV)
 | [.own k []] => if 1000 <= k then some [.own (k - 1000) []] else none
 | _ => none
def Om (p : Rt) : AV -> Fq
 | .dG _ q _ _ => if q = p then .wr (rootOf p) (some (kz p)) else .all
 | _ => .all
theorem vB (p : Rt) (x : AV) : Om p x = .all \/ ∃ k off len,x = .dG k p off len /\ Om p x = .wr (rootOf p) (some (kz p)) := by
 unfold Om;split
 ·rename_i k q off len;split
  ·rename_i e;subst e;exact .inr ⟨_,_,_,rfl,rfl⟩
  ·exact .inl rfl
 ·exact .inl rfl
def fH (c : eE) (call : Nat -> List AV -> Heap -> Option (AV × Heap)) (s : St) : Kd -> Option (AV × St × Fq)
 | .new zs => some (.ptr s.H.length 0,⟨s.env,s.H ++ [some zs]⟩,.al s.H.length)
 | .box x => if bz (bt c s.env x).cells then some (.ptr s.H.length 0,⟨s.env,s.H ++ [some (bt c s.env x).cells]⟩,.al s.H.length) else none
 | .dY k n zs ps =>
   let s1 := dR (gW c s.env ps) s
   match oY c s1.env (rep zs n) ps with
   | some cs => if N3 (cs.map fi) then some (.own k (OY k n (cs.map fi)),s1,if (gW c s.env ps).isEmpty then .no else lR s (gW c s.env ps)) else none
   | none => none
 | .Hd k zs l cp => match bt c s.env l,bt c s.env cp with
   | .int _ l,.int _ cp => if 0 <= l /\ l <= cp /\ cp <= (lj : Int) then some (match WC zs with
     | some z => (.sl k s.H.length 0 l.toNat,⟨s.env,s.H ++ [some (rep z l.toNat)]⟩,.al s.H.length)
     | none => (.own k (List.replicate l.toNat (el (zs.map fi))),s,.no)) else none
   | _,_ => none
 | .ld ag x => match xM s ag (bt c s.env x) with
   | some (v,ps) => if ldOK (bt c s.env x) v then some (v,s,vk (bt c s.env x) v ps) else none
   | none => none
 | .st k a v => match bt c s.env a with
   | .fa _ _ _ _ =>
     let s1 := dR (aP (bt c s.env v)) s
     match OR s1 k (bt c s1.env a) (bt c s1.env v) with
     | some (s',f) => some (.undef,s',if (aP (bt c s.env v)).isEmpty then f else .all)
     | none => none
   | a => match OR s k a (bt c s.env v) with
     | some (s',f) => some (.undef,s',f)
     | none => none
 | .Ov _ _ x => match bt c s.env x with
   | .own _ [] => some (.undef,s,.no)
   | .list _ [] => some (.undef,s,.no)
   | _ => none
 | .call f args => dA c call (.call f args) s
 | .jc x args => dA c call (.jc x args) s
 | .app k x y => match cont s k (bt c s.env y) with
   | some ys => if bz (aH ys) = true then match bt c s.env x with
     | .own _ [] => if ys.length <= lj then some (.own k ys,s,.rd (aP (bt c s.env y))) else none
     | .dG k' p 0 len => match aC s p with
       | some (wu,xs) => if k' = k /\ wu = k /\ len <= xs.length /\ len + ys.length <= lj then some (.own k (xs.take len ++ ys),setAt (cz (sw p) s) p .any,.wr (kX p s.env ++ marks (xw (aP (bt c s.env y)))) (some (cellOf p ++ pJ p 0 s.H))) else none
       | none => none
     | _ => none
     else none
   | none => none
 | .copy k x y => match bt c s.env x with
   | .dG k' p off n => if n = 0 then (match cont s k (bt c s.env y) with
     | some ys => if k' = k /\ bz (aH ys) = true then some (.int .i64 0,s,.all) else none
     | none => none) else match aC s p,cont s k (bt c s.env y) with
     | some (wu,xs),some ys => if k' = k /\ wu = k /\ off + n <= xs.length /\ bz (aH ys) = true then some (.int .i64 (min ys.length n : Nat),setAt s p (.own k (jv xs off (ys.take (min ys.length n)))),Om p (bt c s.env y)) else none
     | _,_ => none
   | _ => none
 | .HK n x hi => match bt c s.env x with
   | .ptr b off => match yk c s.env n n hi,aN s.H b with
     | some m,some cs => if off + n <= cs.length then some (.sl 1 b off m,s,.rd [.c b 1]) else none
     | _,_ => none
   | _ => match PE c s.env (.HK n x hi) with
     | some v => some (v,s,.no)
     | none => none
 | kd => match PE c s.env kd with
   | some v => some (v,s,.no)
   | none => none

def bS (e : Env) (d : Option Nat) (fl : Fq) : Fq :=
 match d with
 | none => fl
 | some d => if bJ (get e d) then .sp else if (aP (get e d)).isEmpty then fl else match fl with
   | .no => .bo []
   | .rd ps => .bo ps
   | .rc b _ => .bo [.c b 0]
   | _ => .sp
def zS (e : Env) (d : Option Nat) (v : AV) (s : St) (fl : Fq) : Option (St × Fq) :=
 match xc s d v with
 | some s' => some (s',bS e d fl)
 | none => none
def qH (c : eE) (call : Nat -> List AV -> Heap -> Option (AV × Heap)) (s : St) (o : O) : Option (St × Fq) :=
 match o.guard with
 | none => match fH c call s o.kd with
   | some (v,s',fl) => zS s.env o.dst v s' fl
   | none => none
 | some (g,want) => match get s.env g with
   | .bool b => if b = want then
     match fH c call s o.kd with
     | some (v,s',fl) => zS s.env o.dst v s' fl
     | none => none
     else zS s.env o.dst .undef s .no
   | .undef => zS s.env o.dst .undef s .no
   | _ => none
def lI (c : eE) (call : Nat -> List AV -> Heap -> Option (AV × Heap)) : List O -> St -> Option (St × List Fq)
 | [],s => some (s,[])
 | o :: r,s => match qH c call s o with
   | some (s',fl) => match lI c call r s' with
     | some (s'',oR) => some (s'',fl :: oR)
     | none => none
   | none => none

def still : Kd -> Bool
 | .mv _ | .pick _ _ _ | .build _ _ | .lK _ | .bin _ _ _ | .eq _ _ _ _ | .un _ _ | .Ci _ _ | .OS _ _ _ | .yG _ _ _ _ | .fX _ _ | .Wi _ _ _ | .fO _ _ _ | .Cy _ _ _ _ | .ix _ _ _ _ _ | .ext _ _ | .VY _ _ | .len _ | .min _ | .max _ => true
 | .Hd _ zs _ _ => (WC zs).isNone
 | _ => false
def gX (n : Nat) : List Rt -> Bool
 | [] => true
 | .c b _ :: r => decide (b < n) && gX n r
 | _ :: r => gX n r
def hU (d : Nat) : List Rt -> Bool
 | [] => true
 | .s i :: r => decide (i ≠ d) && hU d r
 | .sc i _ :: r => decide (i ≠ d) && hU d r
 | .c _ _ :: r => hU d r
def yc (d : Option Nat) : Fq -> Bool
 | .rd ps => match d with
   | some d => hU d ps
   | none => true
 | .bo ps => match d with
   | some d => hU d ps
   | none => true
 | _ => true
def qc (b : Nat) : List Rt -> Bool
 | [] => true
 | .c d _ :: r => decide (d ≠ b) && qc b r
 | _ :: r => qc b r
def Fq.ok : Fq -> Fq -> Bool
 | .no,.no => true
 | .no,.rd _ => true
 | .no,.al _ => true
 | .no,.wr _ _ => true
 | .rd _,.no => true
 | .al _,.no => true
 | .wr _ _,.no => true
 | .rd _,.rd _ => true
 | .rd _,.wr _ _ => true
 | .wr _ _,.rd _ => true
 | .al n,.rd ps => gX n ps
 | .rd ps,.al n => gX n ps
 | .al n,.bo ps => gX n ps
 | .bo ps,.al n => gX n ps
 | .no,.bo _ => true
 | .bo _,.no => true
 | .rd _,.bo _ => true
 | .bo _,.rd _ => true
 | .bo _,.bo _ => true
 | .no,.rc _ _ => true
 | .rc _ _,.no => true
 | .rc _ _,.rd _ => true
 | .rd _,.rc _ _ => true
 | .rc _ _,.rc _ _ => true
 | .rc _ _,.bo _ => true
 | .bo _,.rc _ _ => true
 | .rc _ _,.wr _ _ => true
 | .wr _ _,.rc _ _ => true
 | .al n,.rc b _ => decide (b < n)
 | .rc b _,.al n => decide (b < n)
 | .no,.lw _ => true
 | .lw _,.no => true
 | .rd ps,.lw b => qc b ps
 | .lw b,.rd ps => qc b ps
 | .rc d _,.lw b => decide (d ≠ b)
 | .lw b,.rc d _ => decide (d ≠ b)
 | .al n,.lw b => decide (b < n)
 | .lw b,.al n => decide (b < n)
 | _,_ => false
def FG (sl : List Nat) : List Nat -> Bool
 | [] => true
 | i :: r => !mem i sl && FG sl r
def oS (sl : List Nat) (bs : Option (List Nat)) : List Rt -> Bool
 | [] => true
 | .s i :: r => (!mem i sl && !mem (i + kV) sl) && oS sl bs r
 | .sc i _ :: r => (!mem i sl && !mem (i + kV) sl) && oS sl bs r
 | .c b j :: r => (match bs with
   | some bs => !mu b bs && (decide (j ≠ 0) || !mem (b + kV) bs)
   | none => false) && oS sl bs r
def LJ (bs : Option (List Nat)) (b j : Nat) : Bool := match bs with
 | some bs => !mem b bs && (!mem (b + kV) bs && !mem (tZ b j) bs)
 | none => false
def HR (f : Fq) (y : O) (g : Fq) : Bool :=
 match f with
 | .wr sl bs => FG sl y.reads && (match y.dst with
   | some d => !mem d sl && !mem (d + kV) sl
   | none => true) && (match g with
   | .rd ps => oS sl bs ps
   | .rc b j => LJ bs b j
   | _ => true)
 | _ => true
def iZ (x : O) (f : Fq) (y : O) (g : Fq) : Bool := f.ok g && (yc x.dst g && yc y.dst f) && (HR f y g && HR g x f)
def zw (os : List O) (oR : List Fq) : List (Nat × Nat) -> Bool
 | [] => true
 | (i,j) :: r => (decide (i = j) || iZ (os.getD i ⟨none,none,.min []⟩) (oR.getD i .all) (os.getD j ⟨none,none,.min []⟩) (oR.getD j .all)) && zw os oR r

def mZ : Fq -> Bool
 | .no | .rc _ _ | .rd _ | .al _ | .bo _ | .wr _ _ | .lw _ => true
 | _ => false
def G4 (un : List (Nat × Nat)) : Nat -> List Fq -> Bool
 | _,[] => true
 | k,f :: r => (mZ f || jR k k un) && G4 un (k + 1) r
def Ju (os : List O) (oR : List Fq) (un : List (Nat × Nat)) : Bool := G4 un 0 oR && zw os oR un

/-! Results -/
def Vt (c : eE) (s : St) : Rv -> Option AV
 | .t i => some (bt c s.env (.t i))
 | .c i ag => match xM s ag (bt c s.env (.t i)) with
   | some (v,_) => some v
   | none => none
def oW (c : eE) (s : St) : List Rv -> Option (List AV)
 | [] => some []
 | r :: rs => match Vt c s r,oW c s rs with
   | some v,some vs => some (v :: vs)
   | _,_ => none
def YY (base : Nat) : Rt -> Bool
 | .c b _ => decide (base <= b)
 | _ => true
def G3 (base : Nat) : List Rt -> Bool
 | [] => true
 | p :: r => YY base p && (r.all fun q => decide (q ≠ p)) && G3 base r
def Xk (s : St) : AV -> Option AV
 | .dG k p 0 len => match aC s p with
   | some (k',xs) => if k' = k /\ len <= xs.length then some (.own k (xs.take len)) else none
   | none => none
 | .own k [] => some (.own k [])
 | x => if pl x then some x else none
def Xl (s : St) (x : AV) : Option AV := Xk s x
def uk (base : Nat) (s : St) (v : AV) : Option (AV × Heap) :=
 match get s.env fe with
 | .any =>
   let s2 := dR (aP v) ⟨put s.env fe v,s.H⟩
   let r := get s2.env fe
   if ko r then some (r,trim base [(0,r)] s2.H.length (ft mg s2.H)) else none
 | _ => none
def Hc : AV -> AV
 | .dG _ _ _ _ => .any
 | .own _ _ => .any
 | x => x
def sA (s : St) : Nat -> List Rt -> List AV -> Option (List AV × Heap)
 | _,_,[] => some ([],[])
 | n,used,.dG k (.s i) 0 len :: r => match aC s (.s i) with
   | some (k',xs) => if k' = k /\ len = xs.length /\ vl (.s i) used = false then
     if len = 0 then match sA s n used r with
      | some (ys,hs) => some (.list k [] :: ys,hs)
      | none => none
     else match sA s (n + 1) (.s i :: used) r with
      | some (ys,hs) => some (.sl k n 0 len :: ys,some (aH xs) :: hs)
      | none => none
     else none
   | none => none
 | n,used,x :: r => if ko x = true then match sA s n used r with
   | some (ys,hs) => some (x :: ys,hs)
   | none => none
   else none
def ZP (base : Nat) (s : St) (v : AV) : Option (AV × Heap) :=
 match get s.env fe,v with
 | .any,.dB cs => if fQ (cs.map Hc) = true then
   match sA s (trim base [(0,.dB (cs.map Hc))] s.H.length (ft mg s.H)).length [] cs with
   | some (ys,hs) => some (.dB ys,trim base [(0,.dB (cs.map Hc))] s.H.length (ft mg s.H) ++ hs)
   | none => none
   else none
 | _,_ => none
def bq (md : Md) (base : Nat) (s : St) (v : AV) : Option (AV × Heap) :=
 if md.sh then (if md.ow then ZP base s v else uk base s v)
 else if md.ow then
  if G3 base (aP v) then match Xl s v with
   | some r => some (r,[])
   | none => none
  else none
 else match Qy s v with
  | some r => some (r,[])
  | none => none
def KN (c : eE) (f : Nat) (args : List AV) (H : Heap) : Option (AV × Heap) :=
 match c.orc f with
 | some g => g args H
 | none => none
def lX (c : eE) (run : Nat -> C -> St -> Option (Ex × St)) (f : Nat) (args : List AV) (H : Heap) : Option (AV × Heap) :=
 match KN c f args H with
 | some x => some x
 | none => match c.fn f with
   | none => none
   | some (md,fn) => if args.length <= fn.n then
     match run H.length fn.body ⟨ep 0 args,H⟩ with
     | some (.ret,s) => match oW c s fn.res with
       | some vs => bq md H.length s (nt vs)
       | none => none
     | some (.normal,s) => match oW c s fn.res with
       | some vs => bq md H.length s (nt vs)
       | none => none
     | _ => none
     else none
def cT (c : eE) : Nat -> Nat -> C -> St -> Option (Ex × St)
 | 0,_,_,_ => none
 | n + 1,base,cd,s => match cd with
   | .skip => some (.normal,s)
   | .ret => some (.ret,s)
   | .exit id => some (.exit id,s)
   | .aO os dr un keep => match lI c (lX c (cT c n)) os s with
     | some (s',oR) => if dr = false \/ Ju os oR un = true then (match QC base keep s' with
       | some s2 => some (.normal,s2)
       | none => none) else none
     | none => none
   | .seq a b => match cT c n base a s with
     | some (.normal,s') => cT c n base b s'
     | r => r
   | .cond x a b => match bt c s.env x with
     | .bool t => if t then cT c n base a s else cT c n base b s
     | _ => none
   | .aN id b => match cT c n base b s with
     | some (.exit id',s') => if id' = id then some (.normal,s') else some (.exit id',s')
     | r => r
   | .loop b => match cT c n base b s with
     | some (.normal,s') => cT c n base (.loop b) s'
     | r => r
def gI (c : eE) (n : Nat) (f : Nat) (args : List AV) (H : Heap) : Option (AV × Heap) := lX c (cT c n) f args H

/-! The code for the older machine: what is empty and owned is nil -/
def dnV : AV -> AV
 | .own _ [] => .dz
 | v => v
def s6 : List AV -> List AV
 | [] => []
 | x :: r => dnV x :: s6 r
def lU : E -> E
 | .k x => .k (dnV x)
 | x => x
def Be : List E -> List E
 | [] => []
 | x :: r => lU x :: Be r
def dnO : Option E -> Option E
 | some x => some (lU x)
 | none => none
def Og : List (Nat × Nat × E) -> List (Nat × Nat × E)
 | [] => []
 | (i,j,x) :: r => (i,j,lU x) :: Og r
def lS : Kd -> Kd
 | .mv x => .mv (lU x)
 | .pick c a b => .pick (lU c) (lU a) (lU b)
 | .new zs => .new (s6 zs)
 | .box x => .box (lU x)
 | .build zs ps => .build (s6 zs) (Og ps)
 | .dY k n zs ps => .dY k n (s6 zs) (Og ps)
 | .ld ag x => .ld ag (lU x)
 | .st k a v => .st k (lU a) (lU v)
 | .lK x => .lK (lU x)
 | .bin op x y => .bin op (lU x) (lU y)
 | .eq ng t x y => .eq ng t (lU x) (lU y)
 | .un op x => .un op (lU x)
 | .Ci k x => .Ci k (lU x)
 | .OS fn a b => .OS fn (Be a) (Be b)
 | .Hd k zs l cp => .Hd k (s6 zs) (lU l) (lU cp)
 | .yG k x lo hi => .yG k (lU x) (dnO lo) (dnO hi)
 | .fX off x => .fX off (lU x)
 | .HK n x hi => .HK n (lU x) (dnO hi)
 | .Wi off ag x => .Wi off ag (lU x)
 | .fO k x i => .fO k (lU x) (lU i)
 | .Cy n k x i => .Cy n k (lU x) (lU i)
 | .ix n k ag x i => .ix n k ag (lU x) (lU i)
 | .ext i x => .ext i (lU x)
 | .call f args => .call f (Be args)
 | .jc x args => .jc (lU x) (Be args)
 | .VY tab i => .VY tab (lU i)
 | .Ov k zs x => .Ov k (s6 zs) (lU x)
 | .len x => .len (lU x)
 | .app k x y => .app k (lU x) (lU y)
 | .min xs => .min (Be xs)
 | .max xs => .max (Be xs)
 | .copy k x y => .copy k (lU x) (lU y)
 | .bad => .bad
def Oh (o : O) : O := ⟨o.dst,o.guard,lS o.kd⟩
def kE : E -> Bool
 | .k x => (aP x).isEmpty
 | _ => true
def kEs : List E -> Bool
 | [] => true
 | x :: r => kE x && kEs r
def kEo : Option E -> Bool
 | some x => kE x
 | none => true
def kPs : List (Nat × Nat × E) -> Bool
 | [] => true
 | p :: r => kE p.2.2 && kPs r
def xd : Kd -> Bool
 | .mv x | .box x | .ld _ x | .lK x | .un _ x | .Ci _ x | .fX _ x | .Wi _ _ x | .ext _ x | .len x | .VY _ x | .Ov _ _ x => kE x
 | .pick c a b => kE c && (kE a && kE b)
 | .new _ => true
 | .bad => true
 | .build zs ps => (dh zs).isEmpty && kPs ps
 | .dY _ _ zs ps => (dh zs).isEmpty && kPs ps
 | .st _ x y | .bin _ x y | .eq _ _ x y | .Hd _ _ x y | .fO _ x y | .Cy _ _ x y | .ix _ _ _ x y | .app _ x y | .copy _ x y => kE x && kE y
 | .OS _ a b => kEs a && kEs b
 | .yG _ x lo hi => kE x && (kEo lo && kEo hi)
 | .HK _ x hi => kE x && kEo hi
 | .call _ xs | .min xs | .max xs => kEs xs
 | .jc x xs => kE x && kEs xs
def GG (un : List (Nat × Nat)) (i j : Nat) (x : O) (ys : List Nat) (q : O) : Bool := mem i ys || ((!jR i i un && !jR j j un) && (jI x q && ((still x.kd && still q.kd) || jR i j un)))
def s8 (un : List (Nat × Nat)) (j : Nat) (ys : List Nat) (q : O) : Nat -> List O -> Bool
 | _,[] => true
 | i,x :: r => GG un i j x ys q && s8 un j ys q (i + 1) r
def mO (un : List (Nat × Nat)) (zZ : List (List Nat)) (seen : List O) : List Oper -> List O -> Bool
 | y :: r,q :: s => xd q.kd && ((direct y).all fun i => decide (i < seen.length)) && s8 un seen.length (G1 zZ y) q 0 seen && mO un (zZ ++ [G1 zZ y]) (seen ++ [q]) r s
 | _,_ => true
def qo (P : Program) (N : Nat) (ops : Array Oper) : List Oper -> List O -> Bool
 | [],[] => true
 | o :: r,q :: s => LF P N ops o (Oh q) && qo P N ops r s
 | _,_ => false
def HI (P : Program) (N : Nat) : Code -> C -> Bool
 | .skip,.skip => true
 | .ret,.ret => true
 | .exit i,.exit j => decide (i = j)
 | .region _ ops d,.aO os dr un _ => decide (d = dr) && qo P N ops ops.toList os && (!dr || mO un [] [] ops.toList os)
 | .seq a b,.seq x y => HI P N a x && HI P N b y
 | .cond c a b,.cond c' x y => df c (lU c') && HI P N a x && HI P N b y
 | .block i b,.aN j x => decide (i = j) && HI P N b x
 | .loop b,.loop x => HI P N b x
 | .label _,.skip => true
 | .scope b,.seq .skip x => HI P N b x
 | _,_ => false
def ct (P : Program) (fn : Func) (q : fK) : Bool :=
 decide (fn.ntmps = q.n) && decide (fn.ntmps <= fe) && !(fn.name == "runtime.NumGoroutine") && Cm P fn.results.toList q.res && (match fn.body with
  | some c => HI P q.n c q.body
  | none => false)
structure fE (P : Program) (c : eE) : Prop where
 mixed : P.follows .mixedOrders = true
 fn : ∀ f m q,c.fn f = some (m,q) -> ∃ fn,P.funcs[f]? = some fn /\ ct P fn q = true
end Go.Bm
