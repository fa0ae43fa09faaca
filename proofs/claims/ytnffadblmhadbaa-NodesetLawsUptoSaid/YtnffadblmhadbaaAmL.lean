/- Reasoning about abstract runs without counting fuel. -/
import Derived.Test.YtnffadblmhadbaaAmK
namespace Go.Am
section
variable {c : Cfg}

def W (c : Cfg) (cd : C) (s : St) (Q : Ex → St → Prop) : Prop := ∃ n e s', (∀ m, n ≤ m → aCode c m cd s = some (e, s')) ∧ Q e s'
def WO (c : Cfg) (os : List O) (s : St) (acc : List Fp) (K : St → List Fp → Prop) : Prop := ∃ n s' fls, (∀ m, n ≤ m → aOps c (callW c (aCode c m)) os s = some (s', fls)) ∧ K s' (acc ++ fls)
/-- A call returns r and leaves the heap H'. -/
def Cl (c : Cfg) (f : Nat) (args : List AV) (H : Heap) (r : AV) (H' : Heap) : Prop := ∃ n, ∀ m, n ≤ m → aCall c m f args H = some (r, H')

theorem W.mono {cd : C} {s : St} {Q Q' : Ex → St → Prop} (h : W c cd s Q) (hq : ∀ e s', Q e s' → Q' e s') : W c cd s Q' :=
  let ⟨n, e, s', h1, h2⟩ := h; ⟨n, e, s', h1, hq e s' h2⟩
theorem W_skip {s : St} {Q : Ex → St → Prop} (h : Q .normal s) : W c .skip s Q := ⟨1, _, _, fun m hm => by cases m; omega; rfl, h⟩
theorem W_ret {s : St} {Q : Ex → St → Prop} (h : Q .ret s) : W c .ret s Q := ⟨1, _, _, fun m hm => by cases m; omega; rfl, h⟩
theorem W_exit {s : St} {id : Nat} {Q : Ex → St → Prop} (h : Q (.exit id) s) : W c (.exit id) s Q := ⟨1, _, _, fun m hm => by cases m; omega; rfl, h⟩
def Ex.thn (K : St → Prop) (Q : Ex → St → Prop) : Ex → St → Prop
  | .normal, s => K s
  | e, s => Q e s
theorem W_seq {a b : C} {s : St} {Q : Ex → St → Prop} (h : ∀ K : St → Prop, (∀ s, W c b s Q → K s) → W c a s (Ex.thn K Q)) : W c (.seq a b) s Q := by
  obtain ⟨n, e, s1, h1, h2⟩ := h (fun s => W c b s Q) (fun _ h => h)
  cases e with
  | normal =>
    obtain ⟨n2, e2, s2, h3, h4⟩ := h2
    refine ⟨max n n2 + 1, e2, s2, fun m hm => ?_, h4⟩
    cases m with
    | zero => omega
    | succ m => simp only [aCode, h1 m (by omega), h3 m (by omega)]
  | exit id =>
    refine ⟨n + 1, _, s1, fun m hm => ?_, h2⟩
    cases m with
    | zero => omega
    | succ m => simp only [aCode, h1 m (by omega)]
  | ret =>
    refine ⟨n + 1, _, s1, fun m hm => ?_, h2⟩
    cases m with
    | zero => omega
    | succ m => simp only [aCode, h1 m (by omega)]
theorem W_cond {x : E} {a b : C} {s : St} {t : Bool} {Q : Ex → St → Prop} (hx : ev c s.env x = .bool t) (h : W c (if t then a else b) s Q) : W c (.cond x a b) s Q := by
  obtain ⟨n, e, s1, h1, h2⟩ := h
  refine ⟨n + 1, e, s1, fun m hm => ?_, h2⟩
  cases m with
  | zero => omega
  | succ m =>
    have := h1 m (by omega)
    cases t <;> simpa only [aCode, hx, if_true, Bool.false_eq_true, if_false] using this
theorem W_condT {x : E} {a b : C} {s : St} {Q : Ex → St → Prop} (hx : ev c s.env x = .bool true) (h : W c a s Q) : W c (.cond x a b) s Q := W_cond hx h
theorem W_condF {x : E} {a b : C} {s : St} {Q : Ex → St → Prop} (hx : ev c s.env x = .bool false) (h : W c b s Q) : W c (.cond x a b) s Q := W_cond hx h
def Ex.blk (id : Nat) (Q : Ex → St → Prop) : Ex → St → Prop
  | .exit id', s => if id' = id then Q .normal s else Q (.exit id') s
  | e, s => Q e s
theorem W_blk {id : Nat} {b : C} {s : St} {Q : Ex → St → Prop} (h : W c b s (Ex.blk id Q)) : W c (.blk id b) s Q := by
  obtain ⟨n, e, s1, h1, h2⟩ := h
  cases e with
  | normal =>
    refine ⟨n + 1, _, s1, fun m hm => ?_, h2⟩
    cases m with
    | zero => omega
    | succ m => simp only [aCode, h1 m (by omega)]
  | ret =>
    refine ⟨n + 1, _, s1, fun m hm => ?_, h2⟩
    cases m with
    | zero => omega
    | succ m => simp only [aCode, h1 m (by omega)]
  | exit id' =>
    by_cases hid : id' = id
    · simp only [Ex.blk, hid, if_true] at h2
      refine ⟨n + 1, _, s1, fun m hm => ?_, h2⟩
      cases m with
      | zero => omega
      | succ m => simp only [aCode, h1 m (by omega), hid, if_true]
    · simp only [Ex.blk, hid, if_false] at h2
      refine ⟨n + 1, _, s1, fun m hm => ?_, h2⟩
      cases m with
      | zero => omega
      | succ m => simp only [aCode, h1 m (by omega), hid, if_false]
/-- One round of a loop. -/
theorem W_loop {b : C} {s : St} {Q : Ex → St → Prop} (h : W c b s (Ex.thn (fun s' => W c (.loop b) s' Q) Q)) : W c (.loop b) s Q := by
  obtain ⟨n, e, s1, h1, h2⟩ := h
  cases e with
  | normal =>
    obtain ⟨n2, e2, s2, h3, h4⟩ := h2
    refine ⟨max n n2 + 1, e2, s2, fun m hm => ?_, h4⟩
    cases m with
    | zero => omega
    | succ m => simp only [aCode, h1 m (by omega), h3 m (by omega)]
  | exit id =>
    refine ⟨n + 1, _, s1, fun m hm => ?_, h2⟩
    cases m with
    | zero => omega
    | succ m => simp only [aCode, h1 m (by omega)]
  | ret =>
    refine ⟨n + 1, _, s1, fun m hm => ?_, h2⟩
    cases m with
    | zero => omega
    | succ m => simp only [aCode, h1 m (by omega)]
theorem W_reg {os : List O} {dr : Bool} {un : List (Nat × Nat)} {keep : List Nat} {s : St} {Q : Ex → St → Prop} (h : WO c os s [] (fun s' fls => (dr = false ∨ okDraw fls un = true) ∧ Q .normal ⟨keepIn keep s'.env, s'.H⟩)) : W c (.reg os dr un keep) s Q := by
  obtain ⟨n, s', fls, h1, h2, h3⟩ := h
  refine ⟨n + 1, _, _, fun m hm => ?_, h3⟩
  cases m with
  | zero => omega
  | succ m =>
    simp only [List.nil_append] at h2
    simp only [aCode, h1 m (by omega), if_pos h2]

theorem WO_nil {s : St} {acc : List Fp} {K : St → List Fp → Prop} (h : K s acc) : WO c [] s acc K := ⟨0, s, [], fun _ _ => rfl, by simpa using h⟩
theorem WO_nil_iff {s : St} {acc : List Fp} {K : St → List Fp → Prop} : WO c [] s acc K ↔ K s acc :=
  ⟨fun ⟨n, s', fls, h1, h2⟩ => by
    have h := h1 n (Nat.le_refl _)
    simp [aOps] at h
    obtain ⟨rfl, rfl⟩ := h
    simpa using h2, WO_nil⟩
def noCall : Nat → List AV → Heap → Option (AV × Heap) := fun _ _ _ => none
def Kd.isCall : Kd → Bool
  | .call _ _ => true
  | .callv _ _ => true
  | _ => false
theorem aOp_nocall {call call' : Nat → List AV → Heap → Option (AV × Heap)} {env : Env} {H : Heap} {kd : Kd} (h : kd.isCall = false) : aOp c call env H kd = aOp c call' env H kd := by
  cases kd <;> first | rfl | simp [Kd.isCall] at h
theorem stepO_nocall {call call' : Nat → List AV → Heap → Option (AV × Heap)} {s : St} {o : O} (h : o.kd.isCall = false) : stepO c call s o = stepO c call' s o := by
  unfold stepO
  rw [aOp_nocall (call := call) (call' := call') h]
/-- An operation that calls nothing. -/
theorem WO_cons {o : O} {os : List O} {s : St} {acc : List Fp} {K : St → List Fp → Prop} (hc : o.kd.isCall = false) : WO c (o :: os) s acc K ↔ (match stepO c noCall s o with
    | some (s', f) => WO c os s' (acc ++ [f]) K
    | none => False) := by
  constructor
  · rintro ⟨n, s', fls, h1, h2⟩
    have h := h1 n (Nat.le_refl _)
    simp only [aOps, stepO_nocall (call := callW c (aCode c n)) (call' := noCall) hc] at h
    cases hs : stepO c noCall s o with
    | none => rw [hs] at h; cases h
    | some p =>
      obtain ⟨s1, f⟩ := p
      rw [hs] at h
      simp only at h ⊢
      split at h
      · rename_i s2 fls2 h3
        simp at h
        obtain ⟨rfl, rfl⟩ := h
        refine ⟨n, s2, fls2, fun m hm => ?_, by simpa using h2⟩
        have h := h1 m hm
        simp only [aOps, stepO_nocall (call := callW c (aCode c m)) (call' := noCall) hc, hs] at h
        split at h
        · rename_i s3 fls3 h4
          simp at h
          rw [h4, h.1, h.2]
        · cases h
      · cases h
  · intro h
    cases hs : stepO c noCall s o with
    | none => rw [hs] at h; exact h.elim
    | some p =>
      obtain ⟨s1, f⟩ := p
      rw [hs] at h
      obtain ⟨n, s2, fls, h1, h2⟩ := h
      refine ⟨n, s2, f :: fls, fun m hm => ?_, by simpa using h2⟩
      simp only [aOps, stepO_nocall (call := callW c (aCode c m)) (call' := noCall) hc, hs, h1 m hm]
theorem WO_mv {d : Option Nat} (x : E) {os : List O} {s : St} {acc : List Fp} {K : St → List Fp → Prop} : WO c (⟨d, none, .mv x⟩ :: os) s acc K ↔ (match aOp c noCall s.env s.H (.mv x) with
    | some (v, H', f) => WO c os ⟨putd s.env d v, H'⟩ (acc ++ [f]) K
    | none => False) := by
  rw [WO_cons rfl]
  simp only [stepO]
  cases aOp c noCall s.env s.H (.mv x) <;> rfl
theorem WO_pick {d : Option Nat} (x y z : E) {os : List O} {s : St} {acc : List Fp} {K : St → List Fp → Prop} : WO c (⟨d, none, .pick x y z⟩ :: os) s acc K ↔ (match aOp c noCall s.env s.H (.pick x y z) with
    | some (v, H', f) => WO c os ⟨putd s.env d v, H'⟩ (acc ++ [f]) K
    | none => False) := by
  rw [WO_cons rfl]
  simp only [stepO]
  cases aOp c noCall s.env s.H (.pick x y z) <;> rfl
theorem WO_new {d : Option Nat} (zs : List AV) {os : List O} {s : St} {acc : List Fp} {K : St → List Fp → Prop} : WO c (⟨d, none, .new zs⟩ :: os) s acc K ↔ (match aOp c noCall s.env s.H (.new zs) with
    | some (v, H', f) => WO c os ⟨putd s.env d v, H'⟩ (acc ++ [f]) K
    | none => False) := by
  rw [WO_cons rfl]
  simp only [stepO]
  cases aOp c noCall s.env s.H (.new zs) <;> rfl
theorem WO_box {d : Option Nat} (x : E) {os : List O} {s : St} {acc : List Fp} {K : St → List Fp → Prop} : WO c (⟨d, none, .box x⟩ :: os) s acc K ↔ (match aOp c noCall s.env s.H (.box x) with
    | some (v, H', f) => WO c os ⟨putd s.env d v, H'⟩ (acc ++ [f]) K
    | none => False) := by
  rw [WO_cons rfl]
  simp only [stepO]
  cases aOp c noCall s.env s.H (.box x) <;> rfl
theorem WO_build {d : Option Nat} (zs : List AV) (ps : List (Nat × Nat × E)) {os : List O} {s : St} {acc : List Fp} {K : St → List Fp → Prop} : WO c (⟨d, none, .build zs ps⟩ :: os) s acc K ↔ (match aOp c noCall s.env s.H (.build zs ps) with
    | some (v, H', f) => WO c os ⟨putd s.env d v, H'⟩ (acc ++ [f]) K
    | none => False) := by
  rw [WO_cons rfl]
  simp only [stepO]
  cases aOp c noCall s.env s.H (.build zs ps) <;> rfl
theorem WO_bslice {d : Option Nat} (k n : Nat) (zs : List AV) (ps : List (Nat × Nat × E)) {os : List O} {s : St} {acc : List Fp} {K : St → List Fp → Prop} : WO c (⟨d, none, .bslice k n zs ps⟩ :: os) s acc K ↔ (match aOp c noCall s.env s.H (.bslice k n zs ps) with
    | some (v, H', f) => WO c os ⟨putd s.env d v, H'⟩ (acc ++ [f]) K
    | none => False) := by
  rw [WO_cons rfl]
  simp only [stepO]
  cases aOp c noCall s.env s.H (.bslice k n zs ps) <;> rfl
theorem WO_ld {d : Option Nat} (ag : Option Nat) (x : E) {os : List O} {s : St} {acc : List Fp} {K : St → List Fp → Prop} : WO c (⟨d, none, .ld ag x⟩ :: os) s acc K ↔ (match aOp c noCall s.env s.H (.ld ag x) with
    | some (v, H', f) => WO c os ⟨putd s.env d v, H'⟩ (acc ++ [f]) K
    | none => False) := by
  rw [WO_cons rfl]
  simp only [stepO]
  cases aOp c noCall s.env s.H (.ld ag x) <;> rfl
theorem WO_st {d : Option Nat} (k : Nat) (x y : E) {os : List O} {s : St} {acc : List Fp} {K : St → List Fp → Prop} : WO c (⟨d, none, .st k x y⟩ :: os) s acc K ↔ (match aOp c noCall s.env s.H (.st k x y) with
    | some (v, H', f) => WO c os ⟨putd s.env d v, H'⟩ (acc ++ [f]) K
    | none => False) := by
  rw [WO_cons rfl]
  simp only [stepO]
  cases aOp c noCall s.env s.H (.st k x y) <;> rfl
theorem WO_nilck {d : Option Nat} (x : E) {os : List O} {s : St} {acc : List Fp} {K : St → List Fp → Prop} : WO c (⟨d, none, .nilck x⟩ :: os) s acc K ↔ (match aOp c noCall s.env s.H (.nilck x) with
    | some (v, H', f) => WO c os ⟨putd s.env d v, H'⟩ (acc ++ [f]) K
    | none => False) := by
  rw [WO_cons rfl]
  simp only [stepO]
  cases aOp c noCall s.env s.H (.nilck x) <;> rfl
theorem WO_bin {d : Option Nat} (op : BinOp) (x y : E) {os : List O} {s : St} {acc : List Fp} {K : St → List Fp → Prop} : WO c (⟨d, none, .bin op x y⟩ :: os) s acc K ↔ (match aOp c noCall s.env s.H (.bin op x y) with
    | some (v, H', f) => WO c os ⟨putd s.env d v, H'⟩ (acc ++ [f]) K
    | none => False) := by
  rw [WO_cons rfl]
  simp only [stepO]
  cases aOp c noCall s.env s.H (.bin op x y) <;> rfl
theorem WO_eq {d : Option Nat} (n : Bool) (t : Et) (x y : E) {os : List O} {s : St} {acc : List Fp} {K : St → List Fp → Prop} : WO c (⟨d, none, .eq n t x y⟩ :: os) s acc K ↔ (match aOp c noCall s.env s.H (.eq n t x y) with
    | some (v, H', f) => WO c os ⟨putd s.env d v, H'⟩ (acc ++ [f]) K
    | none => False) := by
  rw [WO_cons rfl]
  simp only [stepO]
  cases aOp c noCall s.env s.H (.eq n t x y) <;> rfl
theorem WO_un {d : Option Nat} (op : UnOp) (x : E) {os : List O} {s : St} {acc : List Fp} {K : St → List Fp → Prop} : WO c (⟨d, none, .un op x⟩ :: os) s acc K ↔ (match aOp c noCall s.env s.H (.un op x) with
    | some (v, H', f) => WO c os ⟨putd s.env d v, H'⟩ (acc ++ [f]) K
    | none => False) := by
  rw [WO_cons rfl]
  simp only [stepO]
  cases aOp c noCall s.env s.H (.un op x) <;> rfl
theorem WO_cvt {d : Option Nat} (k : IntKind) (x : E) {os : List O} {s : St} {acc : List Fp} {K : St → List Fp → Prop} : WO c (⟨d, none, .cvt k x⟩ :: os) s acc K ↔ (match aOp c noCall s.env s.H (.cvt k x) with
    | some (v, H', f) => WO c os ⟨putd s.env d v, H'⟩ (acc ++ [f]) K
    | none => False) := by
  rw [WO_cons rfl]
  simp only [stepO]
  cases aOp c noCall s.env s.H (.cvt k x) <;> rfl
theorem WO_mkf {d : Option Nat} (f : Fn) (a b : List E) {os : List O} {s : St} {acc : List Fp} {K : St → List Fp → Prop} : WO c (⟨d, none, .mkf f a b⟩ :: os) s acc K ↔ (match aOp c noCall s.env s.H (.mkf f a b) with
    | some (v, H', f) => WO c os ⟨putd s.env d v, H'⟩ (acc ++ [f]) K
    | none => False) := by
  rw [WO_cons rfl]
  simp only [stepO]
  cases aOp c noCall s.env s.H (.mkf f a b) <;> rfl
theorem WO_mks {d : Option Nat} (k : Nat) (zs : List AV) (x y : E) {os : List O} {s : St} {acc : List Fp} {K : St → List Fp → Prop} : WO c (⟨d, none, .mks k zs x y⟩ :: os) s acc K ↔ (match aOp c noCall s.env s.H (.mks k zs x y) with
    | some (v, H', f) => WO c os ⟨putd s.env d v, H'⟩ (acc ++ [f]) K
    | none => False) := by
  rw [WO_cons rfl]
  simp only [stepO]
  cases aOp c noCall s.env s.H (.mks k zs x y) <;> rfl
theorem WO_slc {d : Option Nat} (k : Nat) (x : E) (lo hi : Option E) {os : List O} {s : St} {acc : List Fp} {K : St → List Fp → Prop} : WO c (⟨d, none, .slc k x lo hi⟩ :: os) s acc K ↔ (match aOp c noCall s.env s.H (.slc k x lo hi) with
    | some (v, H', f) => WO c os ⟨putd s.env d v, H'⟩ (acc ++ [f]) K
    | none => False) := by
  rw [WO_cons rfl]
  simp only [stepO]
  cases aOp c noCall s.env s.H (.slc k x lo hi) <;> rfl
theorem WO_fad {d : Option Nat} (o : Nat) (x : E) {os : List O} {s : St} {acc : List Fp} {K : St → List Fp → Prop} : WO c (⟨d, none, .fad o x⟩ :: os) s acc K ↔ (match aOp c noCall s.env s.H (.fad o x) with
    | some (v, H', f) => WO c os ⟨putd s.env d v, H'⟩ (acc ++ [f]) K
    | none => False) := by
  rw [WO_cons rfl]
  simp only [stepO]
  cases aOp c noCall s.env s.H (.fad o x) <;> rfl
theorem WO_fld {d : Option Nat} (o : Nat) (ag : Option Nat) (x : E) {os : List O} {s : St} {acc : List Fp} {K : St → List Fp → Prop} : WO c (⟨d, none, .fld o ag x⟩ :: os) s acc K ↔ (match aOp c noCall s.env s.H (.fld o ag x) with
    | some (v, H', f) => WO c os ⟨putd s.env d v, H'⟩ (acc ++ [f]) K
    | none => False) := by
  rw [WO_cons rfl]
  simp only [stepO]
  cases aOp c noCall s.env s.H (.fld o ag x) <;> rfl
theorem WO_ixa {d : Option Nat} (k : Nat) (x i : E) {os : List O} {s : St} {acc : List Fp} {K : St → List Fp → Prop} : WO c (⟨d, none, .ixa k x i⟩ :: os) s acc K ↔ (match aOp c noCall s.env s.H (.ixa k x i) with
    | some (v, H', f) => WO c os ⟨putd s.env d v, H'⟩ (acc ++ [f]) K
    | none => False) := by
  rw [WO_cons rfl]
  simp only [stepO]
  cases aOp c noCall s.env s.H (.ixa k x i) <;> rfl
theorem WO_ixp {d : Option Nat} (n k : Nat) (x i : E) {os : List O} {s : St} {acc : List Fp} {K : St → List Fp → Prop} : WO c (⟨d, none, .ixp n k x i⟩ :: os) s acc K ↔ (match aOp c noCall s.env s.H (.ixp n k x i) with
    | some (v, H', f) => WO c os ⟨putd s.env d v, H'⟩ (acc ++ [f]) K
    | none => False) := by
  rw [WO_cons rfl]
  simp only [stepO]
  cases aOp c noCall s.env s.H (.ixp n k x i) <;> rfl
theorem WO_ix {d : Option Nat} (n k : Nat) (ag : Option Nat) (x i : E) {os : List O} {s : St} {acc : List Fp} {K : St → List Fp → Prop} : WO c (⟨d, none, .ix n k ag x i⟩ :: os) s acc K ↔ (match aOp c noCall s.env s.H (.ix n k ag x i) with
    | some (v, H', f) => WO c os ⟨putd s.env d v, H'⟩ (acc ++ [f]) K
    | none => False) := by
  rw [WO_cons rfl]
  simp only [stepO]
  cases aOp c noCall s.env s.H (.ix n k ag x i) <;> rfl
theorem WO_ext {d : Option Nat} (i : Nat) (x : E) {os : List O} {s : St} {acc : List Fp} {K : St → List Fp → Prop} : WO c (⟨d, none, .ext i x⟩ :: os) s acc K ↔ (match aOp c noCall s.env s.H (.ext i x) with
    | some (v, H', f) => WO c os ⟨putd s.env d v, H'⟩ (acc ++ [f]) K
    | none => False) := by
  rw [WO_cons rfl]
  simp only [stepO]
  cases aOp c noCall s.env s.H (.ext i x) <;> rfl
theorem WO_ixs {d : Option Nat} (tab : List Nat) (i : E) {os : List O} {s : St} {acc : List Fp} {K : St → List Fp → Prop} : WO c (⟨d, none, .ixs tab i⟩ :: os) s acc K ↔ (match aOp c noCall s.env s.H (.ixs tab i) with
    | some (v, H', f) => WO c os ⟨putd s.env d v, H'⟩ (acc ++ [f]) K
    | none => False) := by
  rw [WO_cons rfl]
  simp only [stepO]
  cases aOp c noCall s.env s.H (.ixs tab i) <;> rfl
theorem WO_clr {d : Option Nat} (k : Nat) (zs : List AV) (x : E) {os : List O} {s : St} {acc : List Fp} {K : St → List Fp → Prop} : WO c (⟨d, none, .clr k zs x⟩ :: os) s acc K ↔ (match aOp c noCall s.env s.H (.clr k zs x) with
    | some (v, H', f) => WO c os ⟨putd s.env d v, H'⟩ (acc ++ [f]) K
    | none => False) := by
  rw [WO_cons rfl]
  simp only [stepO]
  cases aOp c noCall s.env s.H (.clr k zs x) <;> rfl
theorem WO_len {d : Option Nat} (x : E) {os : List O} {s : St} {acc : List Fp} {K : St → List Fp → Prop} : WO c (⟨d, none, .len x⟩ :: os) s acc K ↔ (match aOp c noCall s.env s.H (.len x) with
    | some (v, H', f) => WO c os ⟨putd s.env d v, H'⟩ (acc ++ [f]) K
    | none => False) := by
  rw [WO_cons rfl]
  simp only [stepO]
  cases aOp c noCall s.env s.H (.len x) <;> rfl
theorem WO_app {d : Option Nat} (k : Nat) (x y : E) {os : List O} {s : St} {acc : List Fp} {K : St → List Fp → Prop} : WO c (⟨d, none, .app k x y⟩ :: os) s acc K ↔ (match aOp c noCall s.env s.H (.app k x y) with
    | some (v, H', f) => WO c os ⟨putd s.env d v, H'⟩ (acc ++ [f]) K
    | none => False) := by
  rw [WO_cons rfl]
  simp only [stepO]
  cases aOp c noCall s.env s.H (.app k x y) <;> rfl
theorem WO_min {d : Option Nat} (xs : List E) {os : List O} {s : St} {acc : List Fp} {K : St → List Fp → Prop} : WO c (⟨d, none, .min xs⟩ :: os) s acc K ↔ (match aOp c noCall s.env s.H (.min xs) with
    | some (v, H', f) => WO c os ⟨putd s.env d v, H'⟩ (acc ++ [f]) K
    | none => False) := by
  rw [WO_cons rfl]
  simp only [stepO]
  cases aOp c noCall s.env s.H (.min xs) <;> rfl
theorem WO_max {d : Option Nat} (xs : List E) {os : List O} {s : St} {acc : List Fp} {K : St → List Fp → Prop} : WO c (⟨d, none, .max xs⟩ :: os) s acc K ↔ (match aOp c noCall s.env s.H (.max xs) with
    | some (v, H', f) => WO c os ⟨putd s.env d v, H'⟩ (acc ++ [f]) K
    | none => False) := by
  rw [WO_cons rfl]
  simp only [stepO]
  cases aOp c noCall s.env s.H (.max xs) <;> rfl
/-- A step that is known for all large fuel. -/
theorem WO_of {o : O} {os : List O} {s s1 : St} {f : Fp} {acc : List Fp} {K : St → List Fp → Prop} (hs : ∃ n, ∀ m, n ≤ m → stepO c (callW c (aCode c m)) s o = some (s1, f)) (h : WO c os s1 (acc ++ [f]) K) : WO c (o :: os) s acc K := by
  obtain ⟨n1, hs⟩ := hs
  obtain ⟨n, s2, fls, h1, h2⟩ := h
  refine ⟨max n n1, s2, f :: fls, fun m hm => ?_, by simpa using h2⟩
  simp only [aOps, hs m (by omega), h1 m (by omega)]
/-- A guarded operation that is not wanted, and one that is. -/
theorem WO_skip {d : Option Nat} {g : Nat} {w : Bool} {kd : Kd} {os : List O} {s : St} {acc : List Fp} {K : St → List Fp → Prop} (hg : get s.env g = .bool (!w) ∨ get s.env g = .undef) (h : WO c os ⟨putd s.env d .undef, s.H⟩ (acc ++ [.no]) K) :
    WO c (⟨d, some (g, w), kd⟩ :: os) s acc K := by
  refine WO_of ⟨0, fun m _ => ?_⟩ h
  rcases hg with hg | hg <;> simp only [stepO, hg]
  have : ¬ ((!w) = w) := by cases w <;> simp
  rw [if_neg this]
theorem WO_want {d : Option Nat} {g : Nat} {w : Bool} {kd : Kd} {os : List O} {s : St} {acc : List Fp} {K : St → List Fp → Prop} (hg : get s.env g = .bool w) (h : WO c (⟨d, none, kd⟩ :: os) s acc K) :
    WO c (⟨d, some (g, w), kd⟩ :: os) s acc K := by
  obtain ⟨n, s', fls, h1, h2⟩ := h
  refine ⟨n, s', fls, fun m hm => ?_, h2⟩
  have := h1 m hm
  simpa only [aOps, stepO, hg, if_true] using this
/-- Calls. -/
def Pu (c : Cfg) (f : Nat) (args : List AV) (d : AV) : Prop := ∃ n, ∀ m, n ≤ m → ∃ r H1 bs, callW c (aCode c m) f args [] = some (r, H1) ∧ frz H1 DEEP r = some (d, bs)
theorem WO_callP {d : Option Nat} {f : Nat} {q : AFn} {xs : List E} {os : List O} {s : St} {acc : List Fp} {K : St → List Fp → Prop} {v : AV} (hf : c.fn f = some (.P, q)) (hp : plainL (evs c s.env xs) = true) (h : Pu c f (evs c s.env xs) v)
    (hk : WO c os ⟨putd s.env d v, s.H⟩ (acc ++ [.no]) K) : WO c (⟨d, none, .call f xs⟩ :: os) s acc K := by
  obtain ⟨n, h⟩ := h
  refine WO_of ⟨n, fun m hm => ?_⟩ hk
  obtain ⟨r, H1, bs, h1, h2⟩ := h m hm
  simp only [stepO, aOp, doCall, hf, hp, if_true, h1, h2]
/-- A call over arguments that refer to own blocks, with a result that holds no slice. -/
theorem WO_callF {d : Option Nat} {f : Nat} {q : AFn} {xs : List E} {os : List O} {s : St} {acc : List Fp} {K : St → List Fp → Prop} {v : AV} {args : List AV} {bs0 : List Nat} (hf : c.fn f = some (.P, q)) (hp : plainL (evs c s.env xs) = false) (hm : mapF (frz s.H DEEP) (evs c s.env xs) = some (args, bs0)) (h : Pu c f args v) (hfl : v.flat = true)
    (hk : WO c os ⟨putd s.env d v, s.H⟩ (acc ++ [.ra]) K) : WO c (⟨d, none, .call f xs⟩ :: os) s acc K := by
  obtain ⟨n, h⟩ := h
  refine WO_of ⟨n, fun m hmm => ?_⟩ hk
  obtain ⟨r, H1, bs, h1, h2⟩ := h m hmm
  simp only [stepO, aOp, doCall, hf, hp, Bool.false_eq_true, if_false, hm, h1, h2, hfl, if_true]
theorem WO_callS {d : Option Nat} {f : Nat} {q : AFn} {xs : List E} {os : List O} {s : St} {acc : List Fp} {K : St → List Fp → Prop} {v : AV} {args : List AV} {bs0 : List Nat} (hf : c.fn f = some (.P, q)) (hp : plainL (evs c s.env xs) = false) (hm : mapF (frz s.H DEEP) (evs c s.env xs) = some (args, bs0)) (h : Pu c f args v) (hfl : v.flat = false)
    (hk : WO c os ⟨putd s.env d v, kill s.H bs0⟩ (acc ++ [.wr 0 []]) K) : WO c (⟨d, none, .call f xs⟩ :: os) s acc K := by
  obtain ⟨n, h⟩ := h
  refine WO_of ⟨n, fun m hmm => ?_⟩ hk
  obtain ⟨r, H1, bs, h1, h2⟩ := h m hmm
  simp only [stepO, aOp, doCall, hf, hp, Bool.false_eq_true, if_false, hm, h1, h2, hfl]
theorem WO_callK {d : Option Nat} {f : Nat} {q : AFn} {xs : List E} {os : List O} {s : St} {acc : List Fp} {K : St → List Fp → Prop} {v : AV} {H' : Heap} (hf : c.fn f = some (.K, q)) (h : Cl c f (evs c s.env xs) s.H v H')
    (hk : WO c os ⟨putd s.env d v, H'⟩ (acc ++ [.wr 0 []]) K) : WO c (⟨d, none, .call f xs⟩ :: os) s acc K := by
  obtain ⟨n, h⟩ := h
  refine WO_of ⟨n, fun m hm => ?_⟩ hk
  have := h m hm
  unfold aCall at this
  simp only [stepO, aOp, doCall, hf, this]
/-- A call by its body. -/
theorem Cl.of {f : Nat} {md : Md} {q : AFn} {args : List AV} {H H' : Heap} {r : AV} (ho : c.orc f = none) (hf : c.fn f = some (md, q)) (hl : args.length ≤ q.n)
    (h : W c q.body ⟨mkEnv 0 args, H⟩ (fun e s => (e = .ret ∨ e = .normal) ∧ ∃ vs, resL s.H s.env q.res = some vs ∧ tupOf vs = r ∧ s.H = H')) : Cl c f args H r H' := by
  obtain ⟨n, e, s, h1, he, vs, h2, h3, h4⟩ := h
  subst h4
  refine ⟨n, fun m hm => ?_⟩
  unfold aCall callW
  rcases he with rfl | rfl <;> simp only [ho, hf, hl, if_true, h1 m hm, h2, h3]
theorem Pu.of {f : Nat} {args : List AV} {H1 : Heap} {r d : AV} {bs : List Nat} (h : Cl c f args [] r H1) (hz : frz H1 DEEP r = some (d, bs)) : Pu c f args d := by
  obtain ⟨n, h⟩ := h
  exact ⟨n, fun m hm => ⟨r, H1, bs, h m hm, hz⟩⟩
theorem Pu.of0 {f : Nat} {args : List AV} {H1 : Heap} {r : AV} (h : Cl c f args [] r H1) (hz : frz H1 DEEP r = some (r, [])) : Pu c f args r := Pu.of h hz
/-- A closed run by the kernel. -/
def isRun (o : Option (AV × Heap)) (p : AV → Bool) : Bool :=
  match o with
  | some (r, _) => p r
  | none => false
end
end Go.Am
