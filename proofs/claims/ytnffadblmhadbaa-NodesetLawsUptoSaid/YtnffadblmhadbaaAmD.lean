/- The check that ties compact operations to the operations of the dump. -/
import Derived.Test.YtnffadblmhadbaaAmC
namespace Go.Am

def chkV0 : Value → AV → Bool
  | .bool a, .bool b => a == b
  | .int k n, .int k' m => decide (k = k') && decide (n = m)
  | .slice none 0 0, .nils => true
  | .pointer none, .nilp => true
  | .nilFunc, .nilf => true
  | .tuple vs, .undef => vs.isEmpty
  | _, _ => false
def chkVs : List Value → List AV → Bool
  | [], [] => true
  | v :: r, x :: s => chkV0 v x && chkVs r s
  | _, _ => false
def chkV : Value → AV → Bool
  | .agg cs, .agg ds => chkVs cs.toList ds
  | v, x => chkV0 v x
def chkE : Operand → E → Bool
  | .tmp t, .t i => decide (t = i)
  | .const v, .k x => chkV v x
  | .func f, .k (.func (.func g) [] []) => decide (f = g)
  | .global g, .g i => decide (g = i)
  | _, _ => false
def chkEs : List Operand → List E → Bool
  | [], [] => true
  | x :: r, y :: s => chkE x y && chkEs r s
  | _, _ => false
def chkEo : Option Operand → Option E → Bool
  | none, none => true
  | some x, some y => chkE x y
  | _, _ => false
def chkPs (place : Nat → Option (Nat × Nat)) : List (Nat × Operand) → List (Nat × Nat × E) → Bool
  | [], [] => true
  | (i, x) :: r, (off, sz, y) :: s => decide (place i = some (off, sz)) && chkE x y && chkPs place r s
  | _, _ => false

/-- How a variable of a type is read: as so many cells, or as one. -/
def aggOf (P : Program) (t : TypeId) : Option (Option Nat) :=
  match P.underlying t with
  | some (.struct _) | some (.array _ _) => match P.info? t with
    | some i => some (some i.size)
    | none => none
  | some _ => some none
  | none => none
def sizeIs (P : Program) (t : TypeId) (k : Nat) : Bool :=
  match P.info? t with
  | some i => decide (i.size = k)
  | none => false
def zeroIs (P : Program) (t : TypeId) (zs : List AV) : Bool :=
  match P.info? t with
  | some i => match i.zero with
    | some z => chkVs z.cells.toList zs && allLeaf zs
    | none => false
  | none => false
/-- The elements of a slice type: so many cells each. -/
def elemIs (P : Program) (t : TypeId) (k : Nat) : Bool :=
  match P.underlying t with
  | some (.slice e) => match P.info? e with
    | some i => decide (i.size = k) && decide (0 < k) && decide (i.bytes ≤ 1024) && (match i.zero with
      | some z => decide (z.cells.size = k)
      | none => false)
    | none => false
  | _ => false
def elemZero (P : Program) (t : TypeId) (zs : List AV) : Bool :=
  match P.underlying t with
  | some (.slice e) => zeroIs P e zs
  | _ => false
def elemOf (P : Program) (t : TypeId) : TypeId :=
  match P.underlying t with
  | some (.slice e) => e
  | some (.array _ e) => e
  | _ => 0
def structPlace (P : Program) (fs : Array Field) (i : Nat) : Option (Nat × Nat) :=
  match fs[i]? with
  | some f => match P.info? f.type with
    | some j => some (f.offset, j.size)
    | none => none
  | none => none
/-- A struct whose fields are integers and bools, one cell each, in order. -/
def eqFlds (P : Program) : Nat → List Field → List Bool → Bool
  | _, [], [] => true
  | o, f :: r, b :: s => decide (f.offset = o) && decide (f.name ≠ "_") && (match P.underlying f.type with
      | some (.int _) => b
      | some .bool => !b
      | _ => false) && eqFlds P (o + 1) r s
  | _, _, _ => false
def chkEt (P : Program) (t : TypeId) : Et → Bool
  | .bool => match P.underlying t with
    | some .bool => true
    | _ => false
  | .nsl => match P.underlying t with
    | some (.slice _) => true
    | _ => false
  | .nptr => match P.underlying t with
    | some (.pointer _) => true
    | _ => false
  | .nfn => match P.underlying t with
    | some (.func _ _ _) => true
    | _ => false
  | .str l => match P.underlying t with
    | some (.struct fs) => !P.stoodInHeld t && !P.eqGuardType P.depth t && eqFlds P 0 fs.toList l
    | _ => false
def isSlice (P : Program) (t : TypeId) : Bool :=
  match P.underlying t with
  | some (.slice _) => true
  | _ => false

def eqOp : BinOp → Bool → Bool
  | .eql, ng => !ng
  | .neq, ng => ng
  | _, _ => false
def chkK (P : Program) : Op → Kd → Bool
  | .move x, .mv y => chkE x y
  | .assign x, .mv y => chkE x y
  | .pick c a b, .pick c' a' b' => chkE c c' && chkE a a' && chkE b b'
  | .alloc t, .new zs => zeroIs P t zs
  | .box _ x, .box y => chkE x y
  | .build t ps, .build zs qs => zeroIs P t zs && (match P.underlying t with
    | some (.struct fs) => (fs.toList.all fun f => (P.info? f.type).isSome) && chkPs (structPlace P fs) ps.toList qs
    | some (.array _ e) => match P.info? e with
      | some i => chkPs (fun j => some (j * i.size, i.size)) ps.toList qs
      | none => false
    | _ => false)
  | .buildSlice t n ps, .bslice k m zs qs => decide (n = m) && elemIs P t k && elemZero P t zs && decide (n * k ≤ 16777216) && chkPs (fun j => some (j * k, k)) ps.toList qs
  | .load t a, .ld ag y => decide (aggOf P t = some ag) && chkE a y
  | .store t a v, .st k b y => sizeIs P t k && chkE a b && chkE v y
  | .nilCheck x, .nilck y => chkE x y
  | .binOp op _ x y _, .bin op' x' y' => decide (op = op') && chkE x x' && chkE y y'
  | .binOp op t x y _, .eq ng et x' y' => eqOp op ng && chkEt P t et && chkE x x' && chkE y y'
  | .unOp op _ x, .un op' y => decide (op = op') && chkE x y
  | .convert s d x, .cvt k y => (P.underlying s).isSome && (match P.underlying d with
    | some (.int k') => decide (k = k')
    | _ => false) && chkE x y
  | .makeFunc fn as bs, .mkf fn' cs ds => decide (fn = fn') && chkEs as.toList cs && chkEs bs.toList ds
  | .makeSlice t l c, .mks k zs l' c' => elemIs P t k && elemZero P t zs && chkE l l' && chkE c c'
  | .slice t x lo hi none, .slc k y lo' hi' => elemIs P t k && chkE x y && chkEo lo lo' && chkEo hi hi'
  | .fieldAddr s x f, .fad off y => (match P.underlying s with
    | some (.struct fs) => match fs[f]? with
      | some fd => decide (fd.offset = off) && (match P.info? fd.type with
        | some i => decide (i.size ≠ 0)
        | none => false)
      | none => false
    | _ => false) && chkE x y
  | .field s x f, .fld off ag y => (match P.underlying s with
    | some (.struct fs) => match fs[f]? with
      | some fd => decide (fd.offset = off) && decide (aggOf P fd.type = some ag)
      | none => false
    | _ => false) && chkE x y
  | .indexAddr t x i, .ixa k y j => elemIs P t k && chkE x y && chkE i j
  | .indexAddr t x i, .ixp n k y j => (match P.underlying t with
    | some (.array n' e) => decide (n = n') && sizeIs P e k
    | _ => false) && chkE x y && chkE i j
  | .index t x i, .ix n k ag y j => (match P.underlying t with
    | some (.array n' e) => decide (n = n') && sizeIs P e k && decide (aggOf P e = some ag)
    | _ => false) && chkE x y && chkE i j
  | .index t (.const (.string s)) i, .ixs tab j => (match P.underlying t with
    | some .string => true
    | _ => false) && decide (s.data.toList.map (·.toNat) = tab) && chkE i j
  | .call { callee := .builtin .clear, args, argTypes }, .clr k zs x => (match args.toList, argTypes.toList with
    | [x'], [t] => elemIs P t k && elemZero P t zs && chkE x' x
    | _, _ => false)
  | .extract x i, .ext j y => decide (i = j) && chkE x y
  | .call { callee := .value (.func f), args, argTypes := _ }, .call g xs => decide (f = g) && chkEs args.toList xs
  | .call { callee := .value x, args, argTypes := _ }, .callv y xs => chkE x y && chkEs args.toList xs
  | .call { callee := .builtin .len, args, argTypes }, .len y => (match args.toList, argTypes.toList with
    | [x], [t] => isSlice P t && chkE x y
    | _, _ => false)
  | .call { callee := .builtin .append, args, argTypes }, .app k x y => (match args.toList, argTypes.toList with
    | [x', y'], [t, t'] => decide (t = t') && elemIs P t k && chkE x' x && chkE y' y
    | _, _ => false)
  | .call { callee := .builtin .min, args, argTypes := _ }, .min xs => chkEs args.toList xs
  | .call { callee := .builtin .max, args, argTypes := _ }, .max xs => chkEs args.toList xs
  | _, _ => false

def chkO (P : Program) (N : Nat) (ops : Array Oper) (o : Oper) (q : O) : Bool :=
  decide (o.dst = q.dst) && (match q.dst with
    | some d => decide (d < N)
    | none => true) && (match o.guard, q.guard with
    | none, none => true
    | some (j, want), some (g, want') => decide ((ops[j]?).bind (·.dst) = some g) && decide (want = want')
    | _, _ => false) && chkK P o.op q.kd
def chkOs (P : Program) (N : Nat) (ops : Array Oper) : List Oper → List O → Bool
  | [], [] => true
  | o :: r, q :: s => chkO P N ops o q && chkOs P N ops r s
  | _, _ => false
/-- For operation 'j' of a region: what it waits for comes before it; each earlier one that it does not wait for is apart from it, and listed. -/
def apartO (x y : O) : Bool :=
  (match x.dst with
   | some d => !mem d y.reads && decide (y.dst ≠ some d)
   | none => true) &&
  (match y.dst with
   | some d => !mem d x.reads
   | none => true)
def pairIn (i j : Nat) : List (Nat × Nat) → Bool
  | [] => false
  | p :: r => (decide (p.1 = i) && decide (p.2 = j)) || pairIn i j r
def direct (y : Oper) : List Nat := (y.after.toList.filter fun e => Region.binds .any e).map (·.on)
def dedup : List Nat → List Nat
  | [] => []
  | x :: r => if mem x (dedup r) then dedup r else x :: dedup r
/-- What operation y waits for, directly or through others (their lists: 'anc'). -/
def ancOf (anc : List (List Nat)) (y : Oper) : List Nat := dedup (direct y ++ (dedup (direct y)).flatMap fun i => anc.getD i [])
def chkPair (un : List (Nat × Nat)) (i j : Nat) (x : O) (ys : List Nat) (q : O) : Bool := mem i ys || (apartO x q && (x.kd.pure || q.kd.pure || pairIn i j un))
def chkBefore (un : List (Nat × Nat)) (j : Nat) (ys : List Nat) (q : O) : Nat → List O → Bool
  | _, [] => true
  | i, x :: r => chkPair un i j x ys q && chkBefore un j ys q (i + 1) r
def chkOrder (un : List (Nat × Nat)) (anc : List (List Nat)) (seen : List O) : List Oper → List O → Bool
  | y :: r, q :: s => ((direct y).all fun i => decide (i < seen.length)) && chkBefore un seen.length (ancOf anc y) q 0 seen && chkOrder un (anc ++ [ancOf anc y]) (seen ++ [q]) r s
  | _, _ => true
def chk (P : Program) (N : Nat) : Code → C → Bool
  | .skip, .skip => true
  | .ret, .ret => true
  | .exit i, .exit j => decide (i = j)
  | .region _ ops d, .reg os dr un _ => decide (d = dr) && chkOs P N ops ops.toList os && (!dr || chkOrder un [] [] ops.toList os)
  | .seq a b, .seq x y => chk P N a x && chk P N b y
  | .cond c a b, .cond c' x y => chkE c c' && chk P N a x && chk P N b y
  | .block i b, .blk j x => decide (i = j) && chk P N b x
  | .loop b, .loop x => chk P N b x
  | _, _ => false
def chkR (P : Program) : ResultVar → Rv → Bool
  | .tmp t, .t i => decide (t = i)
  | .cell a t, .c i ag => decide (a = i) && decide (aggOf P t = some ag)
  | _, _ => false
def chkRs (P : Program) : List ResultVar → List Rv → Bool
  | [], [] => true
  | x :: r, y :: s => chkR P x y && chkRs P r s
  | _, _ => false
/-- A function of the dump and its compact form. -/
def chkF (P : Program) (fn : Func) (q : AFn) : Bool :=
  decide (fn.ntmps = q.n) && !(fn.name == "runtime.NumGoroutine") && chkRs P fn.results.toList q.res && (match fn.body with
    | some c => chk P q.n c q.body
    | none => false)
structure CfgOK (P : Program) (c : Cfg) : Prop where
  mixed : P.follows .mixedOrders = true
  fn : ∀ f m q, c.fn f = some (m, q) → ∃ fn, P.funcs[f]? = some fn ∧ chkF P fn q = true
end Go.Am
