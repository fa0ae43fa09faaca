/- The machine by value: a slice that is owned is a value, too; others that refer to it borrow it from its place. -/
import Derived.Test.YtmoginoicilobabGreatMa
set_option linter.unusedVariables false

open Bool renaming and_eq_true → aa, false_eq_true → bW
open Nat renaming beq → j0, eq_of_beq_eq_true → cB
namespace Go.Bm
open Go.Am

structure Md where
 sh : Bool
 ow : Bool
 cl : Bool
 deriving Inhabited
structure eG where
 fn : Nat -> Option (Md × eR)
 gl : Nat -> List AV
 orc : Nat -> Option (List AV -> Heap -> Option (AV × Heap))
 inp : Nat -> Option (Nat -> List AV -> List AV -> Option (List AV × Option Nat))
 eat : Nat -> Option (Nat -> List AV -> List AV -> Option (List AV)) := fun _ => none
 loc : Nat -> Bool := fun _ => false
 emp : Nat -> Bool := fun _ => false
 mov : Nat -> Option Nat := fun _ => none

def fg : Nat := 1000000
def kA : Nat := 500000
def we : Nat := 1000000
def jV (b j : Nat) : Nat := b + (j + 1) * we
def uh (b x : Nat) : Bool := decide (we <= x) && (decide (b <= x) && decide ((x - b) % we = 0))
def lC (b : Nat) : List Nat -> Bool
 | [] => false
 | x :: r => decide (x = b) || (uh b x || lC b r)
def marks : List Nat -> List Nat
 | [] => []
 | i :: r => (i + kA) :: marks r

/-! Values -/
mutual
def cU (g : AV -> AV) : AV -> AV
 | .dA k p off len => g (.dA k p off len)
 | .eW k p i off => g (.eW k p i off)
 | .agg cs => .agg (dp g cs)
 | .dD cs => .dD (dp g cs)
 | .func f a b => .func f (dp g a) (dp g b)
 | .any => .any | .undef => .undef | .fk => .fk | .fu => .fu | .dJ => .dJ
 | .int k n => .int k n | .bool b => .bool b | .str s => .str s
 | .list k xs => .list k xs | .dI cs => .dI cs | .ptr b off => .ptr b off | .sl k b off len => .sl k b off len
 | .own k xs => .own k xs
def dp (g : AV -> AV) : List AV -> List AV
 | [] => []
 | x :: r => cU g x :: dp g r
end
mutual
def aN : AV -> List Rt
 | .dA _ p _ _ => [p]
 | .eW _ p _ _ => [p]
 | .agg cs => df cs
 | .dD cs => df cs
 | .func _ a b => df a ++ df b
 | _ => []
def df : List AV -> List Rt
 | [] => []
 | x :: r => aN x ++ df r
end
mutual
def pl : AV -> Bool
 | .own _ _ | .dA _ _ _ _ | .eW _ _ _ _ | .ptr _ _ | .sl _ _ _ _ => false
 | .agg cs => dK cs
 | .dD cs => dK cs
 | .func _ a b => dK a && dK b
 | _ => true
def dK : List AV -> Bool
 | [] => true
 | x :: r => pl x && dK r
end
def fz (x : AV) : Bool := x.leaf && pl x
def Q1 : List AV -> Bool
 | [] => true
 | x :: r => fz x && Q1 r
def bJ : List AV -> Bool
 | [] => false
 | .own _ _ :: _ => true
 | _ :: r => bJ r
def bN : AV -> Bool
 | .own _ _ => true
 | .agg cs => bJ cs
 | _ => false
mutual
def clean : AV -> Bool
 | .list _ xs => xs.isEmpty
 | .dI _ | .any | .func _ _ _ | .dA _ _ _ _ | .eW _ _ _ _ | .ptr _ _ | .sl _ _ _ _ => false
 | .own _ xs => fK xs
 | .agg cs => fK cs
 | .dD cs => fK cs
 | _ => true
def fK : List AV -> Bool
 | [] => true
 | x :: r => clean x && fK r
end

/-! Places -/
def eP (f : Nat -> Rt) : Nat -> List AV -> List AV
 | _,[] => []
 | j,.own k xs :: r => .dA k (f j) 0 xs.length :: eP f (j + 1) r
 | j,x :: r => x :: eP f (j + 1) r
def eY (i : Nat) : AV -> AV
 | .own k xs => .dA k (.s i) 0 xs.length
 | .agg cs => .agg (eP (.sc i) 0 cs)
 | v => v
def at_ (s : St) : Rt -> Option AV
 | .s i => some (get s.env i)
 | .sc i j => match get s.env i with
   | .agg cs => cs[j]?
   | _ => none
 | .c b j => match aJ s.H b with
   | some cs => cs[j]?
   | none => none
def az (s : St) (p : Rt) : Option (Nat × List AV) :=
 match at_ s p with
 | some (.own k xs) => some (k,xs)
 | _ => none
def setAt (s : St) (p : Rt) (v : AV) : St :=
 match p with
 | .s i => ⟨put s.env i v,s.H⟩
 | .sc i j => match get s.env i with
   | .agg cs => ⟨put s.env i (.agg (cs.set j v)),s.H⟩
   | _ => s
 | .c b j => match aJ s.H b with
   | some cs => ⟨s.env,s.H.set b (some (cs.set j v))⟩
   | none => s
def ji (g : AV -> AV) : Env -> Env
 | [] => []
 | (i,v) :: r => (i,cU g v) :: ji g r
def fy (g : AV -> AV) : Heap -> Heap
 | [] => []
 | none :: r => none :: fy g r
 | some cs :: r => some (dp g cs) :: fy g r
def bP (g : AV -> AV) (s : St) : St := ⟨ji g s.env,fy g s.H⟩

def sw (p : Rt) : AV -> AV
 | .dA k q off len => if q = p then .any else .dA k q off len
 | .eW k q i off => if q = p then .any else .eW k q i off
 | v => v
def rt (p q : Rt) (n : Nat) : AV -> AV
 | .dA k r off len => if r = p then (if off + len <= n then .dA k q off len else .any) else .dA k r off len
 | .eW k r i off => if r = p then (if i < n then .eW k q i off else .any) else .eW k r i off
 | v => v
def fb (p : Rt) (k : Nat) (xs : List AV) : AV -> AV
 | .dA k' q off len => if q = p then (if k' = k /\ off + len <= xs.length then .list k ((xs.drop off).take len) else .any) else .dA k' q off len
 | .eW k' q i off => if q = p then (if k' = k then match xs[i]? with
   | some x => .dI (x.cells.drop off)
   | none => .any
   else .any) else .eW k' q i off
 | v => v
def Fw (s : St) (p : Rt) : St :=
 match az s p with
 | some (k,xs) => setAt (bP (fb p k xs) s) p (.list k xs)
 | none => s
def dV : List Rt -> St -> St
 | [],s => s
 | p :: r,s => dV r (Fw s p)

def Cj (p : Rt) (q : Rt) : AV -> Option Rt
 | .dA _ r _ _ => if r = p then some q else none
 | _ => none
def A8 (p : Rt) (f : Nat -> Rt) : Nat -> List AV -> Option Rt
 | _,[] => none
 | j,x :: r => match Cj p (f j) x with
   | some y => some y
   | none => A8 p f (j + 1) r
def borS (p : Rt) (i : Nat) : AV -> Option Rt
 | .agg cs => A8 p (.sc i) 0 cs
 | v => Cj p (.s i) v
def borE (p : Rt) : Env -> Option Rt
 | [] => none
 | (i,v) :: r => match borS p i v with
   | some y => some y
   | none => borE p r
def borH (p : Rt) : Nat -> Heap -> Option Rt
 | _,[] => none
 | b,none :: r => borH p (b + 1) r
 | b,some cs :: r => match A8 p (.c b) 0 cs with
   | some y => some y
   | none => borH p (b + 1) r
def OT (p : Rt) (s : St) : Option Rt :=
 match borS p fg (get s.env fg) with
 | some y => some y
 | none => match borE p s.env with
   | some y => some y
   | none => borH p 0 s.H
def rel (s : St) (p : Rt) : St :=
 match az s p with
 | none => s
 | some (k,xs) => match OT p s with
   | none => setAt (bP (sw p) s) p .any
   | some q => match at_ s q with
     | some (.dA _ r 0 len) => if r = p then setAt (setAt (bP (rt p q len) s) p .any) q (.own k (xs.take len)) else Fw s p
     | _ => Fw s p
def GN (i : Nat) : Nat -> List AV -> St -> St
 | _,[],s => s
 | j,.own _ _ :: r,s => GN i (j + 1) r (rel s (.sc i j))
 | j,_ :: r,s => GN i (j + 1) r s
def zk (s : St) (i : Nat) : St :=
 match get s.env i with
 | .own _ _ => rel s (.s i)
 | .agg cs => GN i 0 cs s
 | _ => s
def mf (keep : List Nat) : Env -> St -> St
 | [],s => s
 | (i,_) :: r,s => mf keep r (if mem i keep then s else zk s i)
def rC (keep : List Nat) : Env -> Bool
 | [] => false
 | (i,v) :: r => (!mem i keep && bN v) || rC keep r

def ju (i d : Nat) : Rt -> Rt
 | .s j => if j = i then .s d else .s j
 | .sc j l => if j = i then .sc d l else .sc j l
 | .c b j => .c b j
def Vv (i d : Nat) : AV -> AV
 | .dA k p off len => .dA k (ju i d p) off len
 | .eW k p l off => .eW k (ju i d p) l off
 | v => v
def KE (s : St) (d : Nat) : St :=
 let s1 := bP (Vv fg d) s
 ⟨put (put s1.env fg .any) d (get s1.env fg),s1.H⟩
def uL (f : Rt -> Bool) : List Rt -> Bool
 | [] => false
 | p :: r => f p || uL f r
def Gk (f : Rt -> Bool) : Env -> Bool
 | [] => false
 | (_,v) :: r => uL f (aN v) || Gk f r
def Gi (f : Rt -> Bool) : Heap -> Bool
 | [] => false
 | none :: r => Gi f r
 | some cs :: r => uL f (df cs) || Gi f r
def Gl (f : Rt -> Bool) (s : St) (v : AV) : Bool := uL f (aN v) || (Gk f s.env || Gi f s.H)
def bz (d : Nat) : Rt -> Bool
 | .s i => decide (i = d)
 | .sc i _ => decide (i = d)
 | .c _ _ => false
def dh (b off k : Nat) : Rt -> Bool
 | .c c j => decide (c = b) && (decide (off <= j) && decide (j < off + k))
 | _ => false
def LJ (s : St) (d : Nat) (v : AV) : Bool := bN (get s.env d) && Gl (bz d) s v
def Vg (s : St) (d : Nat) (v : AV) : Option St :=
 if LJ s d v then
  match get s.env fg with
  | .any => if bN (get (zk ⟨put s.env fg v,s.H⟩ d).env d) then none else some (KE (zk ⟨put s.env fg v,s.H⟩ d) d)
  | _ => none
 else some ⟨put s.env d v,s.H⟩
def vU (s : St) (d : Option Nat) (v : AV) : Option St :=
 match d with
 | some d => Vg s d v
 | none => some s

/-! Boxes that nobody refers to -/
mutual
def qw (b : Nat) : AV -> Bool
 | .ptr c _ => decide (c ≠ b)
 | .sl _ c _ _ => decide (c ≠ b)
 | .dA _ (.c d _) _ _ => decide (d ≠ b)
 | .eW _ (.c d _) _ _ => decide (d ≠ b)
 | .agg cs => jh b cs
 | .dD cs => jh b cs
 | .func _ x y => jh b x && jh b y
 | _ => true
def jh (b : Nat) : List AV -> Bool
 | [] => true
 | x :: r => qw b x && jh b r
end
def Al (b : Nat) : Env -> Bool
 | [] => true
 | (_,v) :: r => qw b v && Al b r
def tV (b : Nat) : Heap -> Bool
 | [] => true
 | none :: r => tV b r
 | some cs :: r => jh b cs && tV b r
def trim (base : Nat) (env : Env) : Nat -> Heap -> Heap
 | 0,H => H
 | n + 1,H => if base <= n /\ H.length = n + 1 /\ Al n env = true /\ tV n (H.take n) = true then trim base env n (H.take n) else H
def endK (base : Nat) (keep : List Nat) (s : St) : St := ⟨pR keep s.env,trim base (pR keep s.env) s.H.length s.H⟩
def Wb (base : Nat) (keep : List Nat) (s : St) : Option St :=
 if rC keep s.env then
  if rC keep (mf keep s.env s).env then none else some (endK base keep (mf keep s.env s))
 else some (endK base keep s)

/-! Operations -/
def bn (c : eG) (env : Env) : E -> AV
 | .t i => eY i (get env i)
 | .k x => x
 | .g i => .dI (c.gl i)
def dq (c : eG) (env : Env) : List E -> List AV
 | [] => []
 | x :: r => bn c env x :: dq c env r
def cont (s : St) (k : Nat) : AV -> Option (List AV)
 | .list k' xs => if k' = k then some xs else none
 | .own _ [] => some []
 | .dA k' p off len => match az s p with
   | some (vp,xs) => if k' = k /\ vp = k /\ off + len <= xs.length then some ((xs.drop off).take len) else none
   | none => none
 | _ => none
def V8 : AV -> Option AV
 | .own k xs => some (.list k xs)
 | x => if fz x then some x else none
def Ce : List AV -> Option (List AV)
 | [] => some []
 | x :: r => match V8 x,Ce r with
   | some y,some ys => some (y :: ys)
   | _,_ => none
def OP (s : St) (k b off len : Nat) : Option AV :=
 match aJ s.H b with
 | some cs => if k = 1 /\ off + len <= cs.length then match Ce ((cs.drop off).take len) with
   | some ys => some (.list 1 ys)
   | none => none
   else none
 | none => none
mutual
def kN (sh : Bool) (s : St) : AV -> Option AV
 | .dA k p off len => match az s p with
   | some (k',xs) => if k' = k /\ off + len <= xs.length then some (.list k ((xs.drop off).take len)) else none
   | none => none
 | .own _ _ => none
 | .agg cs => match Cy sh s cs with
   | some ds => some (.agg ds)
   | none => none
 | .dD cs => match Cy sh s cs with
   | some ds => some (.dD ds)
   | none => none
 | .func f a b => match Cy sh s a,Cy sh s b with
   | some a',some b' => some (.func f a' b')
   | _,_ => none
 | .ptr b off => if sh then some (.ptr b off) else none
 | .eW _ _ _ _ => none
 | .sl _ _ _ _ => none
 | .any => none
 | x => some x
def Cy (sh : Bool) (s : St) : List AV -> Option (List AV)
 | [] => some []
 | x :: r => match kN sh s x,Cy sh s r with
   | some y,some ys => some (y :: ys)
   | _,_ => none
end
mutual
def V7 (s : St) : AV -> Option AV
 | .sl k b off len => OP s k b off len
 | .dD cs => match Ik s cs with
   | some ds => some (.dD ds)
   | none => none
 | x => kN false s x
def Ik (s : St) : List AV -> Option (List AV)
 | [] => some []
 | x :: r => match V7 s x,Ik s r with
   | some y,some ys => some (y :: ys)
   | _,_ => none
end
def hO : AV -> AV
 | .own k [] => .list k []
 | v => v
def rF (s : St) : List AV -> Option (List AV)
 | [] => some []
 | .own k [] :: r => match rF s r with
   | some ys => some (.list k [] :: ys)
   | none => none
 | .sl k b off len :: r => match OP s k b off len,rF s r with
   | some y,some ys => some (y :: ys)
   | _,_ => none
 | x :: r => match kN false s x,rF s r with
   | some y,some ys => some (y :: ys)
   | _,_ => none
def Dt : List AV -> List Rt
 | [] => []
 | .sl _ b _ _ :: r => .c b 1 :: Dt r
 | _ :: r => Dt r
mutual
def fG : AV -> Bool
 | .own _ _ | .dA _ _ _ _ | .eW _ _ _ _ => false
 | .agg cs => dx cs
 | .dD cs => dx cs
 | .func _ a b => dx a && dx b
 | _ => true
def dx : List AV -> Bool
 | [] => true
 | x :: r => fG x && dx r
end
def QO : AV -> Option Nat
 | .dJ => some 0
 | .own _ [] => some 0
 | .list _ xs => some xs.length
 | .dA _ _ _ len => some len
 | .sl _ _ _ len => some len
 | _ => none
def yd (c : eG) (env : Env) (dflt hi : Nat) : Option E -> Option Nat
 | none => some dflt
 | some x => bnd (bn c env x) hi
def nf (c : eG) (env : Env) : List AV -> List (Nat × Nat × E) -> Option (List AV)
 | zs,[] => some zs
 | zs,(off,sz,x) :: r =>
   if (bn c env x).cells.length = sz /\ off + sz <= zs.length /\ bq (bn c env x).cells = true then nf c env (iZ zs off (bn c env x).cells) r else none
def gO : Et -> AV -> Option Bool
 | .Pt,.dJ => some true
 | .Pt,.dA _ _ _ len => if len = 0 then none else some false
 | .Pt,.list _ (_ :: _) => some false
 | .Pt,.sl _ _ _ _ => some false
 | .EX,.fk => some true
 | .EX,.ptr _ _ => some false
 | .EX,.dI _ => some false
 | .nfn,.fu => some true
 | .nfn,.func _ _ _ => some false
 | _,_ => none
def eqB : Et -> AV -> AV -> Option Bool
 | .bool,.bool a,.bool b => some (a == b)
 | .str l,.agg xs,.agg ys => sQ l xs ys
 | .Pt,x,.own _ [] => gO .Pt x
 | .Pt,x,.dJ => gO .Pt x
 | .EX,x,.fk => gO .EX x
 | .nfn,x,.fu => gO .nfn x
 | _,_,_ => none
def Jk (ag : Option Nat) (cs : List AV) : Option AV :=
 match zQ ag cs with
 | some v => if bN v then none else some v
 | none => none
def Qy (c : eG) (env : Env) : Kd -> Option AV
 | .mv x => some (bn c env x)
 | .pick t a b => match bn c env t with
   | .bool t => some (if t then bn c env a else bn c env b)
   | _ => none
 | .build zs ps => match nf c env zs ps with
   | some cs => some (.agg cs)
   | none => none
 | .kU x => match bn c env x with
   | .ptr b off => some (.ptr b off)
   | .dI cs => some (.dI cs)
   | .func (.func f) a b => some (.func (.func f) a b)
   | _ => none
 | .bin op x y => Gc op (bn c env x) (bn c env y)
 | .eq ng t x y => match eqB t (bn c env x) (bn c env y) with
   | some e => some (.bool (if ng then !e else e))
   | none => none
 | .un op x => W2 op (bn c env x)
 | .CB k x => match bn c env x with
   | .int _ n => some (.int k (k.wrap n))
   | _ => none
 | .TK fn a b => if bJ (dq c env a ++ dq c env b) then none else some (.func fn (dq c env a) (dq c env b))
 | .rT k x lo hi => match QO (bn c env x) with
   | some n => match yd c env n n hi with
     | some h => match yd c env 0 h lo with
       | some l => match bn c env x with
         | .own k' xs => if k' = k then some (.own k xs) else none
         | .list k' xs => if k' = k then some (.list k ((xs.take h).drop l)) else none
         | .dA k' p off _ => if k' = k then some (.dA k p (off + l) (h - l)) else none
         | .sl k' b off _ => if k' = k then some (.sl k b (off + l * k) (h - l)) else none
         | _ => none
       | none => none
     | none => none
   | none => none
 | .cC off x => match bn c env x with
   | .ptr b o => some (.ptr b (o + off))
   | .dI cs => some (.dI (cs.drop off))
   | .eW k p i o => some (.eW k p i (o + off))
   | _ => none
 | .IK n x hi => match hi with
   | none => match bn c env x with
     | .dI cs => if n <= cs.length /\ bq (cs.take n) = true then some (.list 1 (cs.take n)) else none
     | _ => none
   | some _ => none
 | .V9 off ag x => match bn c env x with
   | .agg cs => Jk ag (cs.drop off)
   | _ => none
 | .gw k x i => match bn c env x with
   | .list k' xs => match idx (bn c env i) xs.length with
     | some j => if k' = k then match xs[j]? with
       | some v => some (.dI v.cells)
       | none => none
       else none
     | none => none
   | .dA k' p off len => match idx (bn c env i) len with
     | some j => if k' = k then some (.eW k p (off + j) 0) else none
     | none => none
   | .sl k' b off len => match idx (bn c env i) len with
     | some j => if k' = k then some (.ptr b (off + j * k)) else none
     | none => none
   | _ => none
 | .Fi n k x i => match idx (bn c env i) n with
   | some j => match bn c env x with
     | .ptr b off => some (.ptr b (off + j * k))
     | .dI cs => some (.dI (cs.drop (j * k)))
     | .eW k' p l off => some (.eW k' p l (off + j * k))
     | _ => none
   | none => none
 | .ix n k ag x i => match idx (bn c env i) n with
   | some j => match bn c env x with
     | .agg cs => Jk ag (cs.drop (j * k))
     | _ => none
   | none => none
 | .VE tab i => match idx (bn c env i) tab.length with
   | some j => match tab[j]? with
     | some v => some (.int .u8 v)
     | none => none
   | none => none
 | .ext i x => match bn c env x with
   | .dD vs => match vs[i]? with
     | some v => if bN v then none else some v
     | none => none
   | _ => none
 | .len x => match QO (bn c env x) with
   | some n => some (.int .i64 n)
   | none => none
 | .min xs => xK false (dq c env xs)
 | .max xs => xK true (dq c env xs)
 | _ => none

def gj (c : eG) (env : Env) : List (Nat × Nat × E) -> List Rt
 | [] => []
 | (_,_,x) :: r => aN (bn c env x) ++ gj c env r
inductive Fq where
 | no | rc (b j : Nat) | rd (ps : List Rt) | al (n : Nat) | wr (sl : List Nat) (bs : Option (List Nat)) | all | sp | bo (ps : List Rt) | lw (b : Nat)
 deriving Inhabited
def za (p : Rt) : List Rt -> Bool
 | [] => false
 | q :: r => decide (q = p) || za p r
def isRoot (p : Rt) (i : Nat) : Bool :=
 match p with
 | .s j => decide (j = i)
 | .sc j _ => decide (j = i)
 | .c _ _ => false
def jo (p : Rt) : Env -> List Nat
 | [] => []
 | (i,v) :: r => if za p (aN v) || isRoot p i then i :: jo p r else jo p r
def nM (p : Rt) : Nat -> Heap -> List Nat
 | _,[] => []
 | b,none :: r => nM p (b + 1) r
 | b,some cs :: r => if za p (df cs) then b :: nM p (b + 1) r else nM p (b + 1) r
def bU : List Rt -> Bool
 | [] => false
 | .c _ _ :: _ => true
 | _ :: r => bU r
def bZ : Env -> List Nat
 | [] => []
 | (i,v) :: r => if bU (aN v) then i :: bZ r else bZ r
def Lt (k : Nat) (x : AV) (off : Nat) (vs : List AV) : AV := if off = 0 /\ vs.length = k then el vs else el (iZ x.cells off vs)
def xE (s : St) (ag : Option Nat) : AV -> Option (AV × List Rt)
 | .dI cs => match Jk ag cs with
   | some v => some (v,[])
   | none => none
 | .ptr b off => match aJ s.H b with
   | some cs => match Jk ag ((eP (.c b) 0 cs).drop off) with
     | some v => some (v,[.c b (if (aN v).isEmpty then 1 else 0)])
     | none => none
   | none => none
 | .eW k p i off => match az s p with
   | some (k',xs) => if k' = k then match xs[i]? with
     | some x => match Jk ag (x.cells.drop off) with
       | some v => some (v,[p])
       | none => none
     | none => none
     else none
   | none => none
 | _ => none
def eT (b : Nat) : Nat -> Nat -> St -> St
 | _,0,s => s
 | j,n + 1,s => eT b (j + 1) n (match az s (.c b j) with
   | some _ => rel s (.c b j)
   | none => s)
def cO (i b off : Nat) : Rt -> Rt
 | .s j => if j = i then .c b off else .s j
 | .sc j l => if j = i then .c b (off + l) else .sc j l
 | .c d j => .c d j
def dH (i b off : Nat) : AV -> AV
 | .dA k p o len => .dA k (cO i b off p) o len
 | .eW k p l o => .eW k (cO i b off p) l o
 | v => v
def bQ (s : St) (b off k : Nat) : Option St :=
 match aJ (bP (dH fg b off) s).H b with
 | some cs => if (get (bP (dH fg b off) s).env fg).cells.length = k /\ off + k <= cs.length /\ bJ ((cs.drop off).take k) = false /\ bq (get (bP (dH fg b off) s).env fg).cells = true then
   some ⟨put (bP (dH fg b off) s).env fg .any,(bP (dH fg b off) s).H.set b (some (iZ cs off (get (bP (dH fg b off) s).env fg).cells))⟩
   else none
 | none => none
def vQ (s : St) (b off k : Nat) (v : AV) : Option (St × Fq) :=
 match aJ s.H b with
 | some cs => if v.cells.length = k /\ off + k <= cs.length /\ bq v.cells = true then
   if bJ ((cs.drop off).take k) && Gl (dh b off k) s v then
    match get s.env fg with
    | .any => match bQ (eT b off k ⟨put s.env fg v,s.H⟩) b off k with
      | some s' => some (s',.all)
      | none => none
    | _ => none
   else some (⟨s.env,s.H.set b (some (iZ cs off v.cells))⟩,.wr [] (some [b]))
   else none
 | none => none
def rootOf : Rt -> List Nat
 | .s i => [i]
 | .sc i _ => [i]
 | .c _ _ => []
def jF : Rt -> List Nat
 | .c b _ => [b]
 | _ => []
def Uc : Rt -> List Nat
 | .c b _ => [jV b 99999]
 | _ => []
def Ps (s : St) (k : Nat) (a v : AV) : Option (St × Fq) :=
 match a with
 | .ptr b off => vQ s b off k v
 | .eW k' p i off => match az s p with
   | some (vp,xs) => if vp = k' then match xs[i]? with
     | some x => if v.cells.length = k /\ off + k <= k' /\ Q1 v.cells = true then some (setAt s p (.own k' (xs.set i (Lt k' x off v.cells))),.wr (marks (rootOf p)) (some (Uc p))) else none
     | none => none
     else none
   | none => none
 | _ => none

def fi : AV -> AV
 | .dA _ (.c _ _) _ _ => .any
 | .eW _ (.c _ _) _ _ => .any
 | x => x
def bp : Rt -> Bool
 | .c _ _ => false
 | _ => true
def dz : Heap -> Bool
 | [] => true
 | none :: _ => false
 | some cs :: r => !uL bp (df cs) && dz r
def fP : AV -> AV
 | .dA k (.c b j) off len => .dA k (.c b j) off len
 | .eW k (.c b j) i off => .eW k (.c b j) i off
 | .dA _ _ _ _ => .any
 | .eW _ _ _ _ => .any
 | x => x
def fnE : Fn -> Fn -> Bool
 | .func f,y => match y with | .func g => j0 f g | _ => false
 | _,_ => false
mutual
def sS : AV -> AV -> Bool
 | .any,y => match y with | .any => true | _ => false
 | .undef,y => match y with | .undef => true | _ => false
 | .fk,y => match y with | .fk => true | _ => false
 | .fu,y => match y with | .fu => true | _ => false
 | .dJ,y => match y with | .dJ => true | _ => false
 | .int k n,y => match y with | .int k' n' => decide (k = k') && decide (n = n') | _ => false
 | .bool b,y => match y with | .bool b' => b == b' | _ => false
 | .str _,_ => false
 | .agg x,y => match y with | .agg x' => pX x x' | _ => false
 | .dD x,y => match y with | .dD x' => pX x x' | _ => false
 | .list k x,y => match y with | .list k' x' => j0 k k' && pX x x' | _ => false
 | .dI x,y => match y with | .dI x' => pX x x' | _ => false
 | .ptr b o,y => match y with | .ptr b' o' => j0 b b' && j0 o o' | _ => false
 | .sl k b o l,y => match y with | .sl k' b' o' l' => (j0 k k' && j0 b b') && (j0 o o' && j0 l l') | _ => false
 | .func f a b,y => match y with | .func f' a' b' => fnE f f' && (pX a a' && pX b b') | _ => false
 | .own k x,y => match y with | .own k' x' => j0 k k' && pX x x' | _ => false
 | .dA k p o l,y => match y with | .dA k' p' o' l' => (j0 k k' && decide (p = p')) && (j0 o o' && j0 l l') | _ => false
 | .eW k p i o,y => match y with | .eW k' p' i' o' => (j0 k k' && decide (p = p')) && (j0 i i' && j0 o o') | _ => false
def pX : List AV -> List AV -> Bool
 | [],y => match y with | [] => true | _ => false
 | a :: r,y => match y with | b :: s => sS a b && pX r s | _ => false
end
theorem ahe : ∀ {f g : Fn},fnE f g = true -> f = g := by
 intro f g h;cases f <;> cases g <;> simp only [fnE,bW] at h
 rw [cB h]
mutual
theorem ahy : ∀ (a b : AV),sS a b = true -> a = b
 | .any,b,h => by cases b <;> first | rfl | (simp [sS] at h; done)
 | .undef,b,h => by cases b <;> first | rfl | (simp [sS] at h; done)
 | .fk,b,h => by cases b <;> first | rfl | (simp [sS] at h; done)
 | .fu,b,h => by cases b <;> first | rfl | (simp [sS] at h; done)
 | .dJ,b,h => by cases b <;> first | rfl | (simp [sS] at h; done)
 | .int k n,b,h => by
   cases b <;> first | (simp [sS] at h; done) | skip
   simp only [sS,aa,decide_eq_true_eq] at h;rw [h.1,h.2]
 | .bool x,b,h => by
   cases b <;> first | (simp [sS] at h; done) | skip
   simp only [sS,beq_iff_eq] at h;rw [h]
 | .str _,b,h => by simp [sS] at h
 | .agg x,b,h => by
   cases b <;> first | (simp [sS] at h; done) | skip
   simp only [sS] at h;rw [ny _ _ h]
 | .dD x,b,h => by
   cases b <;> first | (simp [sS] at h; done) | skip
   simp only [sS] at h;rw [ny _ _ h]
 | .dI x,b,h => by
   cases b <;> first | (simp [sS] at h; done) | skip
   simp only [sS] at h;rw [ny _ _ h]
 | .list k x,b,h => by
   cases b <;> first | (simp [sS] at h; done) | skip
   simp only [sS,aa] at h;rw [cB h.1,ny _ _ h.2]
 | .own k x,b,h => by
   cases b <;> first | (simp [sS] at h; done) | skip
   simp only [sS,aa] at h;rw [cB h.1,ny _ _ h.2]
 | .ptr k x,b,h => by
   cases b <;> first | (simp [sS] at h; done) | skip
   simp only [sS,aa] at h;rw [cB h.1,cB h.2]
 | .sl k x y z,b,h => by
   cases b <;> first | (simp [sS] at h; done) | skip
   simp only [sS,aa] at h;rw [cB h.1.1,cB h.1.2,cB h.2.1,cB h.2.2]
 | .func f x y,b,h => by
   cases b <;> first | (simp [sS] at h; done) | skip
   simp only [sS,aa] at h;rw [ahe h.1,ny _ _ h.2.1,ny _ _ h.2.2]
 | .dA k x y z,b,h => by
   cases b <;> first | (simp [sS] at h; done) | skip
   simp only [sS,aa,decide_eq_true_eq] at h;rw [cB h.1.1,h.1.2,cB h.2.1,cB h.2.2]
 | .eW k x y z,b,h => by
   cases b <;> first | (simp [sS] at h; done) | skip
   simp only [sS,aa,decide_eq_true_eq] at h;rw [cB h.1.1,h.1.2,cB h.2.1,cB h.2.2]
theorem ny : ∀ (x y : List AV),pX x y = true -> x = y
 | [],y,h => by cases y <;> first | rfl | (simp [pX] at h; done)
 | a :: r,y,h => by
   cases y with
   | nil => simp [pX] at h
   | cons b s =>
     simp only [pX,aa] at h;rw [ahy _ _ h.1,ny _ _ h.2]
end
def Rn : PB -> PB -> Bool
 | none,y => match y with | none => true | some _ => false
 | some x,y => match y with | some x' => pX x x' | none => false
theorem adp {x y : PB} (h : Rn x y = true) : x = y := by
 cases x <;> cases y <;> simp only [Rn,bW] at h
 ·rfl
 ·rw [ny _ _ h]
mutual
def Zm : AV -> List Nat
 | .ptr b _ => [b]
 | .sl _ b _ _ => [b]
 | .agg cs => oF cs
 | .dD cs => oF cs
 | .func _ a b => oF a ++ oF b
 | _ => []
def oF : List AV -> List Nat
 | [] => []
 | x :: r => Zm x ++ oF r
end
def F5 : PB -> Bool
 | some cs => !bJ cs && (df cs).isEmpty
 | none => false
def ja (l : List Nat) : Nat -> Heap -> Heap -> Option (List Nat)
 | _,[],[] => some []
 | b,x :: H,y :: H' => match ja l (b + 1) H H' with
   | some r => if mem b l then some r else if Rn x y then some (if F5 x then r else (b + kA) :: r) else none
   | none => none
 | _,_,_ => none
def Ak (l : List Nat) : Option (List Nat) -> Option (List Nat)
 | some r => some (l ++ r)
 | none => none
mutual
def TB : AV -> AV
 | .dA k p off n => if n = 0 then .list k [] else .dA k p off n
 | .agg cs => .agg (yV cs)
 | v => v
def yV : List AV -> List AV
 | [] => []
 | x :: r => TB x :: yV r
end
def mA (c : eG) (env : Env) : Kd -> Option (Nat × List AV)
 | .call f args => some (f,dq c env args)
 | .jr x args => match bn c env x with
   | .func (.func f) a b => if bJ a || bJ b then none else some (f,a ++ dq c env args ++ b)
   | _ => none
 | _ => none
def getArgs (c : eG) (env : Env) (kd : Kd) : Option (Nat × List AV) :=
 match mA c env kd with
 | some (f,args) => some (f,if c.emp f = true then yV args else args)
 | none => none
def NB (r : AV) : Bool := clean r && (match r with
 | .own _ _ => true
 | r => !bN r)
def kX (s : St) : List Rt -> Fq
 | [p] => match az s p with
   | some _ => .wr (jo p s.env) (some (jF p ++ nM p 0 s.H))
   | none => .all
 | _ => .all
def eh (c : eG) (call : Nat -> List AV -> Heap -> Option (AV × Heap)) (kd : Kd) (s : St) : Option (AV × St × Fq) :=
 match getArgs c s.env kd with
 | none => none
 | some (f,args) => match c.fn f with
   | none => none
   | some (md,_) =>
     if md.cl && !md.sh then
      match rF s args with
      | none => none
      | some pE => match call f pE [] with
        | some (r,_) => if NB r then some (r,s,if (df args ++ Dt args).isEmpty then .no else .rd (df args ++ Dt args)) else none
        | none => none
     else match getArgs c (dV (df args) s).env kd with
      | none => none
      | some (f1, mC) => if f1 = f then
           if md.sh then
            if dx (mC.map hO) && dz (dV (df args) s).H then match call f (mC.map hO) (dV (df args) s).H with
              | some (r,H') => if ((aN r).isEmpty && !bN r) && dz H' then some (r,⟨ji fi (dV (df args) s).env,H'⟩,if (df args).isEmpty then .wr (bZ s.env) (Ak (oF mC) (ja (oF mC) 0 (dV (df args) s).H H')) else .all) else none
              | none => none
            else none
           else if dK (mC.map hO) then match call f (mC.map hO) [] with
            | some (r,_) => if pl r then some (r,dV (df args) s,if (df args).isEmpty then .no else kX s (df args)) else none
            | none => none
           else none
        else none

def VI (k : Nat) (p : Rt) : Option Nat -> AV
 | none => .dD []
 | some m => .dA k p 0 m
def inpL (k : Nat) : Option Nat -> AV
 | none => .dD []
 | some _ => .list k []
def Ky (k b : Nat) : Option Nat -> AV
 | none => .dD []
 | some m => .sl k b 0 m
def cellOf : Rt -> List Nat
 | .c b j => [jV b j]
 | _ => []
def pM : List Rt -> List Nat
 | [] => []
 | p :: r => rootOf p ++ pM r
def FI (s : St) (p : Rt) : AV -> Option AV
 | .int k n => some (.int k n)
 | .dA k q off len => if q = p then none else match az s q with
   | some (k',xs) => if k' = k /\ off + len <= xs.length /\ fK xs = true then some (.list k ((xs.drop off).take len)) else none
   | none => none
 | _ => none
def capV (s : St) (p : Rt) (b j : Nat) : AV -> Option AV
 | .int k n => some (.int k n)
 | .bool x => some (.bool x)
 | .list k xs => some (.list k xs)
 | .own k xs => FI s p (.dA k (.c b j) 0 xs.length)
 | _ => none
def capC (s : St) (p : Rt) (b : Nat) : Nat -> List AV -> Option (List AV)
 | _,[] => some []
 | j,x :: r => match capV s p b j x,capC s p b (j + 1) r with
   | some y,some ys => some (y :: ys)
   | _,_ => none
def capL (s : St) (p : Rt) : List AV -> Option (List AV)
 | [] => some []
 | .ptr b 0 :: r => match aJ s.H b with
   | some cs => match capC s p b 0 cs,capL s p r with
     | some ys,some zs => some (.dI ys :: zs)
     | _,_ => none
   | none => none
 | _ :: _ => none
def OY (s : St) (p : Rt) : AV -> Option AV
 | .func (.func f) [] bs => match capL s p bs with
   | some ys => some (.func (.func f) [] ys)
   | none => none
 | x => FI s p x
def GU : AV -> Bool
 | .func _ _ _ => true
 | _ => false
def Ph : List AV -> Bool
 | [] => false
 | x :: r => GU x || Ph r
def Cz (s : St) (p : Rt) : List AV -> Option (List AV)
 | [] => some []
 | x :: r => match OY s p x,Cz s p r with
   | some y,some ys => some (y :: ys)
   | _,_ => none
def G5 (s : St) (g : Nat -> List AV -> List AV -> Option (List AV)) (x : AV) (es : List AV) : Option (AV × St × Fq) :=
 match x with
 | .dA k p 0 len => match az s p with
   | some (k',xs) => if k' = k /\ len = xs.length /\ fK xs = true then match Cz s p es with
     | some es' => match g k xs es' with
       | some ys => some (.own k ys,setAt (bP (sw p) s) p .any,if Ph es = true then .all else .wr (jo p s.env ++ marks (pM (df es))) (some (cellOf p ++ nM p 0 s.H)))
       | none => none
     | none => none
     else none
   | none => none
 | _ => none
def mw (c : eG) (s : St) : Kd -> Option (Option (AV × St × Fq))
 | .call f (x :: es) => match c.inp f with
   | none => match c.eat f with
     | none => none
     | some g => some (G5 s g (bn c s.env x) (dq c s.env es))
   | some g => some (match bn c s.env x with
     | .list k [] => if dK (dq c s.env es) = true then match g k [] (dq c s.env es) with
       | some (_,res) => some (inpL k res,s,.wr [] (some []))
       | none => none
       else none
     | .dA k p 0 len => match az s p with
       | some (k',xs) => if k' = k /\ len <= xs.length /\ dK (dq c s.env es) = true then
         match g k (xs.take len) (dq c s.env es) with
         | some (ys,res) => some (VI k p res,setAt s p (.own k (ys ++ xs.drop len)),.wr (rootOf p) (some (jF p)))
         | none => none
         else none
       | none => none
     | .sl k b 0 len => match aJ s.H b with
       | some cs => if k = 1 /\ len <= cs.length /\ Q1 cs = true /\ dK (dq c s.env es) = true then
         match g k (cs.take len) (dq c s.env es) with
         | some (ys,res) => some (Ky k b res,⟨s.env,s.H.set b (some (aA ys ++ cs.drop len))⟩,.all)
         | none => none
         else none
       | none => none
     | _ => none)
 | _ => none
def Vy (c : eG) (call : Nat -> List AV -> Heap -> Option (AV × Heap)) (s : St) (f : Nat) (es : List AV) : AV -> Option (AV × St × Fq)
 | .ptr b 0 => match c.fn f,aJ s.H b with
   | some (md,_),some cs => if md.sh = true /\ dK es = true /\ dK cs = true then match call f (.ptr 0 0 :: es) [some cs] with
     | some (r,[some cs']) => if pl r = true /\ dK cs' = true then some (r,⟨s.env,s.H.set b (some cs')⟩,.lw b) else none
     | _ => none
     else none
   | _,_ => none
 | _ => none
def lq (c : eG) (call : Nat -> List AV -> Heap -> Option (AV × Heap)) (s : St) : Kd -> Option (Option (AV × St × Fq))
 | .call f (x :: es) => if c.loc f = true then some (Vy c call s f (dq c s.env es) (bn c s.env x)) else none
 | _ => none
def NY (c : eG) (call : Nat -> List AV -> Heap -> Option (AV × Heap)) (f i : Nat) (s1 : St) (xs : List AV) : Option (AV × St × Fq) := none
def pP (c : eG) (call : Nat -> List AV -> Heap -> Option (AV × Heap)) (s : St) : Kd -> Option (Option (AV × St × Fq))
 | .call f es => match c.mov f with
   | some i => some (NY c call f i (dV (df ((dq c s.env es).set i .undef)) s) (dq c (dV (df ((dq c s.env es).set i .undef)) s).env es))
   | none => none
 | _ => none
def slAt : Nat -> List AV -> Option (Nat × Nat × Nat × Nat)
 | _,[] => none
 | i,.sl k b off len :: r => if k = 1 then some (i,b,off,len) else slAt (i + 1) r
 | i,_ :: r => slAt (i + 1) r
def zM (c : eG) (call : Nat -> List AV -> Heap -> Option (AV × Heap)) (s : St) (kd : Kd) : Option (AV × St × Fq) := none
def pD (c : eG) (call : Nat -> List AV -> Heap -> Option (AV × Heap)) (kd : Kd) (s : St) : Option (AV × St × Fq) :=
 match eh c call kd s with
 | some x => some x
 | none => zM c call s kd
def fR (c : eG) (call : Nat -> List AV -> Heap -> Option (AV × Heap)) (kd : Kd) (s : St) : Option (AV × St × Fq) :=
 match pP c call s kd with
 | some r => r
 | none => pD c call kd s
def dE (c : eG) (call : Nat -> List AV -> Heap -> Option (AV × Heap)) (kd : Kd) (s : St) : Option (AV × St × Fq) :=
 match mw c s kd with
 | some r => r
 | none => match lq c call s kd with
   | some r => r
   | none => fR c call kd s
def ldOK (x v : AV) : Bool := match x with
 | .ptr _ _ => true
 | _ => (aN v).isEmpty
def ug (x v : AV) (ps : List Rt) : Fq := match x,v with
 | .ptr b off,.dA _ (.c d j) _ _ => if d = b /\ j = off then .rc b off else .rd ps
 | _,_ => .rd ps
def Wx : List AV -> Option (List AV)
 | [.own k []] => if 1000 <= k then some [.own (k - 1000) []] else none
 | _ => none
def O4 (p : Rt) : AV -> Fq
 | .dA _ q _ _ => if q = p then .wr (rootOf p) (some (jF p)) else .all
 | _ => .all
theorem uA (p : Rt) (x : AV) : O4 p x = .all \/ ∃ k off len,x = .dA k p off len /\ O4 p x = .wr (rootOf p) (some (jF p)) := by
 unfold O4;split
 ·rename_i k q off len;split
  ·rename_i e;subst e;exact .inr ⟨_,_,_,rfl,rfl⟩
  ·exact .inl rfl
 ·exact .inl rfl
def ft (c : eG) (call : Nat -> List AV -> Heap -> Option (AV × Heap)) (s : St) : Kd -> Option (AV × St × Fq)
 | .new zs => some (.ptr s.H.length 0,⟨s.env,s.H ++ [some zs]⟩,.al s.H.length)
 | .box x => if bq (bn c s.env x).cells then some (.ptr s.H.length 0,⟨s.env,s.H ++ [some (bn c s.env x).cells]⟩,.al s.H.length) else none
 | .eE k n zs ps =>
   let s1 := dV (gj c s.env ps) s
   match nf c s1.env (rep zs n) ps with
   | some cs => if Q1 (cs.map hO) then some (.own k (PA k n (cs.map hO)),s1,if (gj c s.env ps).isEmpty then .no else kX s (gj c s.env ps)) else none
   | none => none
 | .Kn k zs l cp => match bn c s.env l,bn c s.env cp with
   | .int _ l,.int _ cp => if 0 <= l /\ l <= cp /\ cp <= (jQ : Int) then some (match Wx zs with
     | some z => (.sl k s.H.length 0 l.toNat,⟨s.env,s.H ++ [some (rep z l.toNat)]⟩,.al s.H.length)
     | none => (.own k (List.replicate l.toNat (el (zs.map hO))),s,.no)) else none
   | _,_ => none
 | .ld ag x => match xE s ag (bn c s.env x) with
   | some (v,ps) => if ldOK (bn c s.env x) v then some (v,s,ug (bn c s.env x) v ps) else none
   | none => none
 | .st k a v => match bn c s.env a with
   | .eW _ _ _ _ =>
     let s1 := dV (aN (bn c s.env v)) s
     match Ps s1 k (bn c s1.env a) (bn c s1.env v) with
     | some (s',f) => some (.undef,s',if (aN (bn c s.env v)).isEmpty then f else .all)
     | none => none
   | a => match Ps s k a (bn c s.env v) with
     | some (s',f) => some (.undef,s',f)
     | none => none
 | .Ur _ _ x => match bn c s.env x with
   | .own _ [] => some (.undef,s,.no)
   | .list _ [] => some (.undef,s,.no)
   | _ => none
 | .call f args => dE c call (.call f args) s
 | .jr x args => dE c call (.jr x args) s
 | .app k x y => match cont s k (bn c s.env y) with
   | some ys => if bq (aA ys) = true then match bn c s.env x with
     | .own _ [] => if ys.length <= jQ then some (.own k ys,s,.rd (aN (bn c s.env y))) else none
     | .dA k' p 0 len => match az s p with
       | some (vp,xs) => if k' = k /\ vp = k /\ len <= xs.length /\ len + ys.length <= jQ then some (.own k (xs.take len ++ ys),setAt (bP (sw p) s) p .any,.wr (jo p s.env ++ marks (pM (aN (bn c s.env y)))) (some (cellOf p ++ nM p 0 s.H))) else none
       | none => none
     | _ => none
     else none
   | none => none
 | .copy k x y => match bn c s.env x with
   | .dA k' p off n => if n = 0 then (match cont s k (bn c s.env y) with
     | some ys => if k' = k /\ bq (aA ys) = true then some (.int .i64 0,s,.all) else none
     | none => none) else match az s p,cont s k (bn c s.env y) with
     | some (vp,xs),some ys => if k' = k /\ vp = k /\ off + n <= xs.length /\ bq (aA ys) = true then some (.int .i64 (min ys.length n : Nat),setAt s p (.own k (iZ xs off (ys.take (min ys.length n)))),O4 p (bn c s.env y)) else none
     | _,_ => none
   | _ => none
 | .IK n x hi => match bn c s.env x with
   | .ptr b off => match yd c s.env n n hi,aJ s.H b with
     | some m,some cs => if off + n <= cs.length then some (.sl 1 b off m,s,.rd [.c b 1]) else none
     | _,_ => none
   | _ => match Qy c s.env (.IK n x hi) with
     | some v => some (v,s,.no)
     | none => none
 | kd => match Qy c s.env kd with
   | some v => some (v,s,.no)
   | none => none

def bR (e : Env) (d : Option Nat) (fl : Fq) : Fq :=
 match d with
 | none => fl
 | some d => if bN (get e d) then .sp else if (aN (get e d)).isEmpty then fl else match fl with
   | .no => .bo []
   | .rd ps => .bo ps
   | .rc b _ => .bo [.c b 0]
   | _ => .sp
def zj (e : Env) (d : Option Nat) (v : AV) (s : St) (fl : Fq) : Option (St × Fq) :=
 match vU s d v with
 | some s' => some (s',bR e d fl)
 | none => none
def po (c : eG) (call : Nat -> List AV -> Heap -> Option (AV × Heap)) (s : St) (o : O) : Option (St × Fq) :=
 match o.guard with
 | none => match ft c call s o.kd with
   | some (v,s',fl) => zj s.env o.dst v s' fl
   | none => none
 | some (g,want) => match get s.env g with
   | .bool b => if b = want then
     match ft c call s o.kd with
     | some (v,s',fl) => zj s.env o.dst v s' fl
     | none => none
     else zj s.env o.dst .undef s .no
   | .undef => zj s.env o.dst .undef s .no
   | _ => none
def pf (c : eG) (call : Nat -> List AV -> Heap -> Option (AV × Heap)) : List O -> St -> Option (St × List Fq)
 | [],s => some (s,[])
 | o :: r,s => match po c call s o with
   | some (s',fl) => match pf c call r s' with
     | some (s'',m9) => some (s'',fl :: m9)
     | none => none
   | none => none

def still : Kd -> Bool
 | .mv _ | .pick _ _ _ | .build _ _ | .kU _ | .bin _ _ _ | .eq _ _ _ _ | .un _ _ | .CB _ _ | .TK _ _ _ | .rT _ _ _ _ | .cC _ _ | .V9 _ _ _ | .gw _ _ _ | .Fi _ _ _ _ | .ix _ _ _ _ _ | .ext _ _ | .VE _ _ | .len _ | .min _ | .max _ => true
 | .Kn _ zs _ _ => (Wx zs).isNone
 | _ => false
def gq (n : Nat) : List Rt -> Bool
 | [] => true
 | .c b _ :: r => decide (b < n) && gq n r
 | _ :: r => gq n r
def gJ (d : Nat) : List Rt -> Bool
 | [] => true
 | .s i :: r => decide (i ≠ d) && gJ d r
 | .sc i _ :: r => decide (i ≠ d) && gJ d r
 | .c _ _ :: r => gJ d r
def xX (d : Option Nat) : Fq -> Bool
 | .rd ps => match d with
   | some d => gJ d ps
   | none => true
 | .bo ps => match d with
   | some d => gJ d ps
   | none => true
 | _ => true
def oJ (b : Nat) : List Rt -> Bool
 | [] => true
 | .c d _ :: r => decide (d ≠ b) && oJ b r
 | _ :: r => oJ b r
def Fq.ok : Fq -> Fq -> Bool
 | .no,.no => true
 | .no,.rd _ => true
 | .no,.al _ => true
 | .no,.wr _ _ => true
 | .rd _,.no => true
 | .al _,.no => true
 | .wr _ _,.no => true
 | .rd _,.rd _ => true
 | .rd _,.wr _ _ => true
 | .wr _ _,.rd _ => true
 | .al n,.rd ps => gq n ps
 | .rd ps,.al n => gq n ps
 | .al n,.bo ps => gq n ps
 | .bo ps,.al n => gq n ps
 | .no,.bo _ => true
 | .bo _,.no => true
 | .rd _,.bo _ => true
 | .bo _,.rd _ => true
 | .bo _,.bo _ => true
 | .no,.rc _ _ => true
 | .rc _ _,.no => true
 | .rc _ _,.rd _ => true
 | .rd _,.rc _ _ => true
 | .rc _ _,.rc _ _ => true
 | .rc _ _,.bo _ => true
 | .bo _,.rc _ _ => true
 | .rc _ _,.wr _ _ => true
 | .wr _ _,.rc _ _ => true
 | .al n,.rc b _ => decide (b < n)
 | .rc b _,.al n => decide (b < n)
 | .no,.lw _ => true
 | .lw _,.no => true
 | .rd ps,.lw b => oJ b ps
 | .lw b,.rd ps => oJ b ps
 | .rc d _,.lw b => decide (d ≠ b)
 | .lw b,.rc d _ => decide (d ≠ b)
 | .al n,.lw b => decide (b < n)
 | .lw b,.al n => decide (b < n)
 | _,_ => false
def EZ (sl : List Nat) : List Nat -> Bool
 | [] => true
 | i :: r => !mem i sl && EZ sl r
def mZ (sl : List Nat) (bs : Option (List Nat)) : List Rt -> Bool
 | [] => true
 | .s i :: r => (!mem i sl && !mem (i + kA) sl) && mZ sl bs r
 | .sc i _ :: r => (!mem i sl && !mem (i + kA) sl) && mZ sl bs r
 | .c b j :: r => (match bs with
   | some bs => !lC b bs && (decide (j ≠ 0) || !mem (b + kA) bs)
   | none => false) && mZ sl bs r
def KY (bs : Option (List Nat)) (b j : Nat) : Bool := match bs with
 | some bs => !mem b bs && (!mem (b + kA) bs && !mem (jV b j) bs)
 | none => false
def Hd (f : Fq) (y : O) (g : Fq) : Bool :=
 match f with
 | .wr sl bs => EZ sl y.reads && (match y.dst with
   | some d => !mem d sl && !mem (d + kA) sl
   | none => true) && (match g with
   | .rd ps => mZ sl bs ps
   | .rc b j => KY bs b j
   | _ => true)
 | _ => true
def iz (x : O) (f : Fq) (y : O) (g : Fq) : Bool := f.ok g && (xX x.dst g && xX y.dst f) && (Hd f y g && Hd g x f)
def yT (os : List O) (m9 : List Fq) : List (Nat × Nat) -> Bool
 | [] => true
 | (i,j) :: r => (decide (i = j) || iz (os.getD i ⟨none,none,.min []⟩) (m9.getD i .all) (os.getD j ⟨none,none,.min []⟩) (m9.getD j .all)) && yT os m9 r

def mg : Fq -> Bool
 | .no | .rc _ _ | .rd _ | .al _ | .bo _ | .wr _ _ | .lw _ => true
 | _ => false
def Gn (un : List (Nat × Nat)) : Nat -> List Fq -> Bool
 | _,[] => true
 | k,f :: r => (mg f || jB k k un) && Gn un (k + 1) r
def It (os : List O) (m9 : List Fq) (un : List (Nat × Nat)) : Bool := Gn un 0 m9 && yT os m9 un

/-! Results -/
def XI (c : eG) (s : St) : Rv -> Option AV
 | .t i => some (bn c s.env (.t i))
 | .c i ag => match xE s ag (bn c s.env (.t i)) with
   | some (v,_) => some v
   | none => none
def nO (c : eG) (s : St) : List Rv -> Option (List AV)
 | [] => some []
 | r :: rs => match XI c s r,nO c s rs with
   | some v,some vs => some (v :: vs)
   | _,_ => none
def QL (base : Nat) : Rt -> Bool
 | .c b _ => decide (base <= b)
 | _ => true
def zt (base : Nat) : List Rt -> Bool
 | [] => true
 | p :: r => QL base p && (r.all fun q => decide (q ≠ p)) && zt base r
def RO (s : St) : AV -> Option AV
 | .dA k p 0 len => match az s p with
   | some (k',xs) => if k' = k /\ len <= xs.length then some (.own k (xs.take len)) else none
   | none => none
 | .own k [] => some (.own k [])
 | x => if pl x then some x else none
def RP (s : St) (x : AV) : Option AV := RO s x
def eB (base : Nat) (s : St) (v : AV) : Option (AV × Heap) :=
 match get s.env fg with
 | .any =>
   let s2 := dV (aN v) ⟨put s.env fg v,s.H⟩
   let r := get s2.env fg
   if fG r then some (r,trim base [(0,r)] s2.H.length (fy fP s2.H)) else none
 | _ => none
def noB : AV -> AV
 | .dA _ _ _ _ => .any
 | .own _ _ => .any
 | x => x
def Uy (s : St) : Nat -> List Rt -> List AV -> Option (List AV × Heap)
 | _,_,[] => some ([],[])
 | n,used,.dA k (.s i) 0 len :: r => match az s (.s i) with
   | some (k',xs) => if k' = k /\ len = xs.length /\ za (.s i) used = false then
     if len = 0 then match Uy s n used r with
      | some (ys,hs) => some (.list k [] :: ys,hs)
      | none => none
     else match Uy s (n + 1) (.s i :: used) r with
      | some (ys,hs) => some (.sl k n 0 len :: ys,some (aA xs) :: hs)
      | none => none
     else none
   | none => none
 | n,used,x :: r => if fG x = true then match Uy s n used r with
   | some (ys,hs) => some (x :: ys,hs)
   | none => none
   else none
def finX (base : Nat) (s : St) (v : AV) : Option (AV × Heap) := none
def aZ (md : Md) (base : Nat) (s : St) (v : AV) : Option (AV × Heap) :=
 if md.sh then (if md.ow then finX base s v else eB base s v)
 else if md.ow then
  if zt base (aN v) then match RP s v with
   | some r => some (r,[])
   | none => none
  else none
 else match V7 s v with
  | some r => some (r,[])
  | none => none
def EN (c : eG) (f : Nat) (args : List AV) (H : Heap) : Option (AV × Heap) :=
 match c.orc f with
 | some g => g args H
 | none => none
def k7 (c : eG) (run : Nat -> C -> St -> Option (Ex × St)) (f : Nat) (args : List AV) (H : Heap) : Option (AV × Heap) :=
 match EN c f args H with
 | some x => some x
 | none => match c.fn f with
   | none => none
   | some (md,fn) => if args.length <= fn.n then
     match run H.length fn.body ⟨ei 0 args,H⟩ with
     | some (.ret,s) => match nO c s fn.res with
       | some vs => aZ md H.length s (m6 vs)
       | none => none
     | some (.normal,s) => match nO c s fn.res with
       | some vs => aZ md H.length s (m6 vs)
       | none => none
     | _ => none
     else none
def c8 (c : eG) : Nat -> Nat -> C -> St -> Option (Ex × St)
 | 0,_,_,_ => none
 | n + 1,base,cd,s => match cd with
   | .skip => some (.normal,s)
   | .ret => some (.ret,s)
   | .exit id => some (.exit id,s)
   | .aH os dr un keep => match pf c (k7 c (c8 c n)) os s with
     | some (s',m9) => if dr = false \/ It os m9 un = true then (match Wb base keep s' with
       | some s2 => some (.normal,s2)
       | none => none) else none
     | none => none
   | .seq a b => match c8 c n base a s with
     | some (.normal,s') => c8 c n base b s'
     | r => r
   | .cond x a b => match bn c s.env x with
     | .bool t => if t then c8 c n base a s else c8 c n base b s
     | _ => none
   | .aJ id b => match c8 c n base b s with
     | some (.exit id',s') => if id' = id then some (.normal,s') else some (.exit id',s')
     | r => r
   | .loop b => match c8 c n base b s with
     | some (.normal,s') => c8 c n base (.loop b) s'
     | r => r
def nh (c : eG) (n : Nat) (f : Nat) (args : List AV) (H : Heap) : Option (AV × Heap) := k7 c (c8 c n) f args H

/-! The code for the older machine: what is empty and owned is nil -/
def dnV : AV -> AV
 | .own _ [] => .dJ
 | v => v
def rG : List AV -> List AV
 | [] => []
 | x :: r => dnV x :: rG r
def kZ : E -> E
 | .k x => .k (dnV x)
 | x => x
def A4 : List E -> List E
 | [] => []
 | x :: r => kZ x :: A4 r
def dnO : Option E -> Option E
 | some x => some (kZ x)
 | none => none
def O0 : List (Nat × Nat × E) -> List (Nat × Nat × E)
 | [] => []
 | (i,j,x) :: r => (i,j,kZ x) :: O0 r
def kY : Kd -> Kd
 | .mv x => .mv (kZ x)
 | .pick c a b => .pick (kZ c) (kZ a) (kZ b)
 | .new zs => .new (rG zs)
 | .box x => .box (kZ x)
 | .build zs ps => .build (rG zs) (O0 ps)
 | .eE k n zs ps => .eE k n (rG zs) (O0 ps)
 | .ld ag x => .ld ag (kZ x)
 | .st k a v => .st k (kZ a) (kZ v)
 | .kU x => .kU (kZ x)
 | .bin op x y => .bin op (kZ x) (kZ y)
 | .eq ng t x y => .eq ng t (kZ x) (kZ y)
 | .un op x => .un op (kZ x)
 | .CB k x => .CB k (kZ x)
 | .TK fn a b => .TK fn (A4 a) (A4 b)
 | .Kn k zs l cp => .Kn k (rG zs) (kZ l) (kZ cp)
 | .rT k x lo hi => .rT k (kZ x) (dnO lo) (dnO hi)
 | .cC off x => .cC off (kZ x)
 | .IK n x hi => .IK n (kZ x) (dnO hi)
 | .V9 off ag x => .V9 off ag (kZ x)
 | .gw k x i => .gw k (kZ x) (kZ i)
 | .Fi n k x i => .Fi n k (kZ x) (kZ i)
 | .ix n k ag x i => .ix n k ag (kZ x) (kZ i)
 | .ext i x => .ext i (kZ x)
 | .call f args => .call f (A4 args)
 | .jr x args => .jr (kZ x) (A4 args)
 | .VE tab i => .VE tab (kZ i)
 | .Ur k zs x => .Ur k (rG zs) (kZ x)
 | .len x => .len (kZ x)
 | .app k x y => .app k (kZ x) (kZ y)
 | .min xs => .min (A4 xs)
 | .max xs => .max (A4 xs)
 | .copy k x y => .copy k (kZ x) (kZ y)
 | .bad => .bad
def O2 (o : O) : O := ⟨o.dst,o.guard,kY o.kd⟩
def kE : E -> Bool
 | .k x => (aN x).isEmpty
 | _ => true
def kEs : List E -> Bool
 | [] => true
 | x :: r => kE x && kEs r
def kEo : Option E -> Bool
 | some x => kE x
 | none => true
def kPs : List (Nat × Nat × E) -> Bool
 | [] => true
 | p :: r => kE p.2.2 && kPs r
def vX : Kd -> Bool
 | .mv x | .box x | .ld _ x | .kU x | .un _ x | .CB _ x | .cC _ x | .V9 _ _ x | .ext _ x | .len x | .VE _ x | .Ur _ _ x => kE x
 | .pick c a b => kE c && (kE a && kE b)
 | .new _ => true
 | .bad => true
 | .build zs ps => (df zs).isEmpty && kPs ps
 | .eE _ _ zs ps => (df zs).isEmpty && kPs ps
 | .st _ x y | .bin _ x y | .eq _ _ x y | .Kn _ _ x y | .gw _ x y | .Fi _ _ x y | .ix _ _ _ x y | .app _ x y | .copy _ x y => kE x && kE y
 | .TK _ a b => kEs a && kEs b
 | .rT _ x lo hi => kE x && (kEo lo && kEo hi)
 | .IK _ x hi => kE x && kEo hi
 | .call _ xs | .min xs | .max xs => kEs xs
 | .jr x xs => kE x && kEs xs
def FP (un : List (Nat × Nat)) (i j : Nat) (x : O) (ys : List Nat) (q : O) : Bool := mem i ys || ((!jB i i un && !jB j j un) && (jk x q && ((still x.kd && still q.kd) || jB i j un)))
def rJ (un : List (Nat × Nat)) (j : Nat) (ys : List Nat) (q : O) : Nat -> List O -> Bool
 | _,[] => true
 | i,x :: r => FP un i j x ys q && rJ un j ys q (i + 1) r
def l9 (un : List (Nat × Nat)) (zr : List (List Nat)) (seen : List O) : List Oper -> List O -> Bool
 | y :: r,q :: s => vX q.kd && ((direct y).all fun i => decide (i < seen.length)) && rJ un seen.length (Gm zr y) q 0 seen && l9 un (zr ++ [Gm zr y]) (seen ++ [q]) r s
 | _,_ => true
def oU (P : Program) (N : Nat) (ops : Array Oper) : List Oper -> List O -> Bool
 | [],[] => true
 | o :: r,q :: s => KP P N ops o (O2 q) && oU P N ops r s
 | _,_ => false
def G6 (P : Program) (N : Nat) : Code -> C -> Bool
 | .skip,.skip => true
 | .ret,.ret => true
 | .exit i,.exit j => decide (i = j)
 | .region _ ops d,.aH os dr un _ => decide (d = dr) && oU P N ops ops.toList os && (!dr || l9 un [] [] ops.toList os)
 | .seq a b,.seq x y => G6 P N a x && G6 P N b y
 | .cond c a b,.cond c' x y => dv c (kZ c') && G6 P N a x && G6 P N b y
 | .block i b,.aJ j x => decide (i = j) && G6 P N b x
 | .loop b,.loop x => G6 P N b x
 | .label _,.skip => true
 | .scope b,.seq .skip x => G6 P N b x
 | _,_ => false
def bF (P : Program) (fn : Func) (q : eR) : Bool :=
 decide (fn.ntmps = q.n) && decide (fn.ntmps <= fg) && !(fn.name == "runtime.NumGoroutine") && Cg P fn.results.toList q.res && (match fn.body with
  | some c => G6 P q.n c q.body
  | none => false)
structure fm (P : Program) (c : eG) : Prop where
 mixed : P.follows .mixedOrders = true
 fn : ∀ f m q,c.fn f = some (m,q) -> ∃ fn,P.funcs[f]? = some fn /\ bF P fn q = true
end Go.Bm
