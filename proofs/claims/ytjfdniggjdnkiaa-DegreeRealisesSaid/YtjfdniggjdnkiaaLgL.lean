/- The older machine's logic without fuel; rows of ints. -/
import Derived.Test.YtjfdniggjdnkiaaMa
namespace Go.Am
section
variable {c : Cfg}

def W (c : Cfg) (cd : C) (s : St) (Q : Ex -> St -> Prop) : Prop := ∃ n e s', (∀ m, n <= m -> aCode c m cd s = some (e, s')) /\ Q e s'
def WO (c : Cfg) (os : List O) (s : St) (acc : List Fp) (K : St -> List Fp -> Prop) : Prop := ∃ n s' fls, (∀ m, n <= m -> aOps c (callW c (aCode c m)) os s = some (s', fls)) /\ K s' (acc ++ fls)
def Cl (c : Cfg) (f : Nat) (args : List AV) (H : Heap) (r : AV) (H' : Heap) : Prop := ∃ n, ∀ m, n <= m -> aCall c m f args H = some (r, H')

theorem W.mono {cd : C} {s : St} {Q Q' : Ex -> St -> Prop} (h : W c cd s Q) (hq : ∀ e s', Q e s' -> Q' e s') : W c cd s Q' :=
 let ⟨n, e, s', h1, h2⟩ := h; ⟨n, e, s', h1, hq e s' h2⟩
theorem W_skip {s : St} {Q : Ex -> St -> Prop} (h : Q .normal s) : W c .skip s Q := ⟨1, _, _, fun m hm => by cases m; omega; rfl, h⟩
theorem W_ret {s : St} {Q : Ex -> St -> Prop} (h : Q .ret s) : W c .ret s Q := ⟨1, _, _, fun m hm => by cases m; omega; rfl, h⟩
theorem W_exit {s : St} {id : Nat} {Q : Ex -> St -> Prop} (h : Q (.exit id) s) : W c (.exit id) s Q := ⟨1, _, _, fun m hm => by cases m; omega; rfl, h⟩
def Ex.thn (K : St -> Prop) (Q : Ex -> St -> Prop) : Ex -> St -> Prop
 | .normal, s => K s
 | e, s => Q e s
theorem W_seq {a b : C} {s : St} {Q : Ex -> St -> Prop} (h : ∀ K : St -> Prop, (∀ s, W c b s Q -> K s) -> W c a s (Ex.thn K Q)) : W c (.seq a b) s Q := by
 obtain ⟨n, e, s1, h1, h2⟩ := h (fun s => W c b s Q) (fun _ h => h)
 cases e with
 | normal =>
   obtain ⟨n2, e2, s2, h3, h4⟩ := h2
   refine ⟨max n n2 + 1, e2, s2, fun m hm => ?_, h4⟩
   cases m with
   | zero => omega
   | succ m => simp only [aCode, h1 m (by omega), h3 m (by omega)]
 | exit id =>
   refine ⟨n + 1, _, s1, fun m hm => ?_, h2⟩
   cases m with
   | zero => omega
   | succ m => simp only [aCode, h1 m (by omega)]
 | ret =>
   refine ⟨n + 1, _, s1, fun m hm => ?_, h2⟩
   cases m with
   | zero => omega
   | succ m => simp only [aCode, h1 m (by omega)]
theorem W_cond {x : E} {a b : C} {s : St} {t : Bool} {Q : Ex -> St -> Prop} (hx : ev c s.env x = .bool t) (h : W c (if t then a else b) s Q) : W c (.cond x a b) s Q := by
 obtain ⟨n, e, s1, h1, h2⟩ := h
 refine ⟨n + 1, e, s1, fun m hm => ?_, h2⟩
 cases m with
 | zero => omega
 | succ m =>
   have := h1 m (by omega)
   cases t <;> simpa only [aCode, hx, if_true, Bool.false_eq_true, if_false] using this
theorem W_condT {x : E} {a b : C} {s : St} {Q : Ex -> St -> Prop} (hx : ev c s.env x = .bool true) (h : W c a s Q) : W c (.cond x a b) s Q := W_cond hx h
theorem W_condF {x : E} {a b : C} {s : St} {Q : Ex -> St -> Prop} (hx : ev c s.env x = .bool false) (h : W c b s Q) : W c (.cond x a b) s Q := W_cond hx h
def Ex.blk (id : Nat) (Q : Ex -> St -> Prop) : Ex -> St -> Prop
 | .exit id', s => if id' = id then Q .normal s else Q (.exit id') s
 | e, s => Q e s
theorem W_blk {id : Nat} {b : C} {s : St} {Q : Ex -> St -> Prop} (h : W c b s (Ex.blk id Q)) : W c (.blk id b) s Q := by
 obtain ⟨n, e, s1, h1, h2⟩ := h
 cases e with
 | normal =>
   refine ⟨n + 1, _, s1, fun m hm => ?_, h2⟩
   cases m with
   | zero => omega
   | succ m => simp only [aCode, h1 m (by omega)]
 | ret =>
   refine ⟨n + 1, _, s1, fun m hm => ?_, h2⟩
   cases m with
   | zero => omega
   | succ m => simp only [aCode, h1 m (by omega)]
 | exit id' =>
   by_cases hid : id' = id
   ·simp only [Ex.blk, hid, if_true] at h2
    refine ⟨n + 1, _, s1, fun m hm => ?_, h2⟩
    cases m with
    | zero => omega
    | succ m => simp only [aCode, h1 m (by omega), hid, if_true]
   ·simp only [Ex.blk, hid, if_false] at h2
    refine ⟨n + 1, _, s1, fun m hm => ?_, h2⟩
    cases m with
    | zero => omega
    | succ m => simp only [aCode, h1 m (by omega), hid, if_false]
theorem W_loop {b : C} {s : St} {Q : Ex -> St -> Prop} (h : W c b s (Ex.thn (fun s' => W c (.loop b) s' Q) Q)) : W c (.loop b) s Q := by
 obtain ⟨n, e, s1, h1, h2⟩ := h
 cases e with
 | normal =>
   obtain ⟨n2, e2, s2, h3, h4⟩ := h2
   refine ⟨max n n2 + 1, e2, s2, fun m hm => ?_, h4⟩
   cases m with
   | zero => omega
   | succ m => simp only [aCode, h1 m (by omega), h3 m (by omega)]
 | exit id =>
   refine ⟨n + 1, _, s1, fun m hm => ?_, h2⟩
   cases m with
   | zero => omega
   | succ m => simp only [aCode, h1 m (by omega)]
 | ret =>
   refine ⟨n + 1, _, s1, fun m hm => ?_, h2⟩
   cases m with
   | zero => omega
   | succ m => simp only [aCode, h1 m (by omega)]
theorem W_reg {os : List O} {dr : Bool} {un : List (Nat × Nat)} {keep : List Nat} {s : St} {Q : Ex -> St -> Prop} (h : WO c os s [] (fun s' fls => (dr = false \/ okDraw fls un = true) /\ Q .normal ⟨keepIn keep s'.env, s'.H⟩)) : W c (.reg os dr un keep) s Q := by
 obtain ⟨n, s', fls, h1, h2, h3⟩ := h
 refine ⟨n + 1, _, _, fun m hm => ?_, h3⟩
 cases m with
 | zero => omega
 | succ m =>
   simp only [List.nil_append] at h2
   simp only [aCode, h1 m (by omega), if_pos h2]

theorem WO_nil {s : St} {acc : List Fp} {K : St -> List Fp -> Prop} (h : K s acc) : WO c [] s acc K := ⟨0, s, [], fun _ _ => rfl, by simpa using h⟩
theorem WO_nil_iff {s : St} {acc : List Fp} {K : St -> List Fp -> Prop} : WO c [] s acc K ↔ K s acc :=
 ⟨fun ⟨n, s', fls, h1, h2⟩ => by
  have h := h1 n (Nat.le_refl _)
  simp [aOps] at h
  obtain ⟨rfl, rfl⟩ := h
  simpa using h2, WO_nil⟩
def noCall : Nat -> List AV -> Heap -> Option (AV × Heap) := fun _ _ _ => none
def Kd.isCall : Kd -> Bool
 | .call _ _ => true
 | .callv _ _ => true
 | _ => false
theorem aOp_nocall {call call' : Nat -> List AV -> Heap -> Option (AV × Heap)} {env : Env} {H : Heap} {kd : Kd} (h : kd.isCall = false) : aOp c call env H kd = aOp c call' env H kd := by
 cases kd <;> first | rfl | simp [Kd.isCall] at h
theorem stepO_nocall {call call' : Nat -> List AV -> Heap -> Option (AV × Heap)} {s : St} {o : O} (h : o.kd.isCall = false) : stepO c call s o = stepO c call' s o := by
 unfold stepO
 rw [aOp_nocall (call := call) (call' := call') h]
theorem WO_cons {o : O} {os : List O} {s : St} {acc : List Fp} {K : St -> List Fp -> Prop} (hc : o.kd.isCall = false) : WO c (o :: os) s acc K ↔ (match stepO c noCall s o with
  | some (s', f) => WO c os s' (acc ++ [f]) K
  | none => False) := by
 constructor
 ·rintro ⟨n, s', fls, h1, h2⟩
  have h := h1 n (Nat.le_refl _)
  simp only [aOps, stepO_nocall (call := callW c (aCode c n)) (call' := noCall) hc] at h
  cases hs : stepO c noCall s o with
  | none => rw [hs] at h; cases h
  | some p =>
    obtain ⟨s1, f⟩ := p
    rw [hs] at h
    simp only at h ⊢
    split at h
    ·rename_i s2 fls2 h3
     simp at h
     obtain ⟨rfl, rfl⟩ := h
     refine ⟨n, s2, fls2, fun m hm => ?_, by simpa using h2⟩
     have h := h1 m hm
     simp only [aOps, stepO_nocall (call := callW c (aCode c m)) (call' := noCall) hc, hs] at h
     split at h
     ·rename_i s3 fls3 h4
      simp at h
      rw [h4, h.1, h.2]
     ·cases h
    ·cases h
 ·intro h
  cases hs : stepO c noCall s o with
  | none => rw [hs] at h; exact h.elim
  | some p =>
    obtain ⟨s1, f⟩ := p
    rw [hs] at h
    obtain ⟨n, s2, fls, h1, h2⟩ := h
    refine ⟨n, s2, f :: fls, fun m hm => ?_, by simpa using h2⟩
    simp only [aOps, stepO_nocall (call := callW c (aCode c m)) (call' := noCall) hc, hs, h1 m hm]
theorem WO_mv {d : Option Nat} (x : E) {os : List O} {s : St} {acc : List Fp} {K : St -> List Fp -> Prop} : WO c (⟨d, none, .mv x⟩ :: os) s acc K ↔ (match aOp c noCall s.env s.H (.mv x) with
  | some (v, H', f) => WO c os ⟨putd s.env d v, H'⟩ (acc ++ [f]) K
  | none => False) := by
 rw [WO_cons rfl]
 simp only [stepO]
 cases aOp c noCall s.env s.H (.mv x) <;> rfl
theorem WO_pick {d : Option Nat} (x y z : E) {os : List O} {s : St} {acc : List Fp} {K : St -> List Fp -> Prop} : WO c (⟨d, none, .pick x y z⟩ :: os) s acc K ↔ (match aOp c noCall s.env s.H (.pick x y z) with
  | some (v, H', f) => WO c os ⟨putd s.env d v, H'⟩ (acc ++ [f]) K
  | none => False) := by
 rw [WO_cons rfl]
 simp only [stepO]
 cases aOp c noCall s.env s.H (.pick x y z) <;> rfl
theorem WO_new {d : Option Nat} (zs : List AV) {os : List O} {s : St} {acc : List Fp} {K : St -> List Fp -> Prop} : WO c (⟨d, none, .new zs⟩ :: os) s acc K ↔ (match aOp c noCall s.env s.H (.new zs) with
  | some (v, H', f) => WO c os ⟨putd s.env d v, H'⟩ (acc ++ [f]) K
  | none => False) := by
 rw [WO_cons rfl]
 simp only [stepO]
 cases aOp c noCall s.env s.H (.new zs) <;> rfl
theorem WO_box {d : Option Nat} (x : E) {os : List O} {s : St} {acc : List Fp} {K : St -> List Fp -> Prop} : WO c (⟨d, none, .box x⟩ :: os) s acc K ↔ (match aOp c noCall s.env s.H (.box x) with
  | some (v, H', f) => WO c os ⟨putd s.env d v, H'⟩ (acc ++ [f]) K
  | none => False) := by
 rw [WO_cons rfl]
 simp only [stepO]
 cases aOp c noCall s.env s.H (.box x) <;> rfl
theorem WO_build {d : Option Nat} (zs : List AV) (ps : List (Nat × Nat × E)) {os : List O} {s : St} {acc : List Fp} {K : St -> List Fp -> Prop} : WO c (⟨d, none, .build zs ps⟩ :: os) s acc K ↔ (match aOp c noCall s.env s.H (.build zs ps) with
  | some (v, H', f) => WO c os ⟨putd s.env d v, H'⟩ (acc ++ [f]) K
  | none => False) := by
 rw [WO_cons rfl]
 simp only [stepO]
 cases aOp c noCall s.env s.H (.build zs ps) <;> rfl
theorem WO_bslice {d : Option Nat} (k n : Nat) (zs : List AV) (ps : List (Nat × Nat × E)) {os : List O} {s : St} {acc : List Fp} {K : St -> List Fp -> Prop} : WO c (⟨d, none, .bslice k n zs ps⟩ :: os) s acc K ↔ (match aOp c noCall s.env s.H (.bslice k n zs ps) with
  | some (v, H', f) => WO c os ⟨putd s.env d v, H'⟩ (acc ++ [f]) K
  | none => False) := by
 rw [WO_cons rfl]
 simp only [stepO]
 cases aOp c noCall s.env s.H (.bslice k n zs ps) <;> rfl
theorem WO_ld {d : Option Nat} (ag : Option Nat) (x : E) {os : List O} {s : St} {acc : List Fp} {K : St -> List Fp -> Prop} : WO c (⟨d, none, .ld ag x⟩ :: os) s acc K ↔ (match aOp c noCall s.env s.H (.ld ag x) with
  | some (v, H', f) => WO c os ⟨putd s.env d v, H'⟩ (acc ++ [f]) K
  | none => False) := by
 rw [WO_cons rfl]
 simp only [stepO]
 cases aOp c noCall s.env s.H (.ld ag x) <;> rfl
theorem WO_st {d : Option Nat} (k : Nat) (x y : E) {os : List O} {s : St} {acc : List Fp} {K : St -> List Fp -> Prop} : WO c (⟨d, none, .st k x y⟩ :: os) s acc K ↔ (match aOp c noCall s.env s.H (.st k x y) with
  | some (v, H', f) => WO c os ⟨putd s.env d v, H'⟩ (acc ++ [f]) K
  | none => False) := by
 rw [WO_cons rfl]
 simp only [stepO]
 cases aOp c noCall s.env s.H (.st k x y) <;> rfl
theorem WO_bin {d : Option Nat} (op : BinOp) (x y : E) {os : List O} {s : St} {acc : List Fp} {K : St -> List Fp -> Prop} : WO c (⟨d, none, .bin op x y⟩ :: os) s acc K ↔ (match aOp c noCall s.env s.H (.bin op x y) with
  | some (v, H', f) => WO c os ⟨putd s.env d v, H'⟩ (acc ++ [f]) K
  | none => False) := by
 rw [WO_cons rfl]
 simp only [stepO]
 cases aOp c noCall s.env s.H (.bin op x y) <;> rfl
theorem WO_slc {d : Option Nat} (k : Nat) (x : E) (lo hi : Option E) {os : List O} {s : St} {acc : List Fp} {K : St -> List Fp -> Prop} : WO c (⟨d, none, .slc k x lo hi⟩ :: os) s acc K ↔ (match aOp c noCall s.env s.H (.slc k x lo hi) with
  | some (v, H', f) => WO c os ⟨putd s.env d v, H'⟩ (acc ++ [f]) K
  | none => False) := by
 rw [WO_cons rfl]
 simp only [stepO]
 cases aOp c noCall s.env s.H (.slc k x lo hi) <;> rfl
theorem WO_fad {d : Option Nat} (o : Nat) (x : E) {os : List O} {s : St} {acc : List Fp} {K : St -> List Fp -> Prop} : WO c (⟨d, none, .fad o x⟩ :: os) s acc K ↔ (match aOp c noCall s.env s.H (.fad o x) with
  | some (v, H', f) => WO c os ⟨putd s.env d v, H'⟩ (acc ++ [f]) K
  | none => False) := by
 rw [WO_cons rfl]
 simp only [stepO]
 cases aOp c noCall s.env s.H (.fad o x) <;> rfl
theorem WO_ixa {d : Option Nat} (k : Nat) (x i : E) {os : List O} {s : St} {acc : List Fp} {K : St -> List Fp -> Prop} : WO c (⟨d, none, .ixa k x i⟩ :: os) s acc K ↔ (match aOp c noCall s.env s.H (.ixa k x i) with
  | some (v, H', f) => WO c os ⟨putd s.env d v, H'⟩ (acc ++ [f]) K
  | none => False) := by
 rw [WO_cons rfl]
 simp only [stepO]
 cases aOp c noCall s.env s.H (.ixa k x i) <;> rfl
theorem WO_len {d : Option Nat} (x : E) {os : List O} {s : St} {acc : List Fp} {K : St -> List Fp -> Prop} : WO c (⟨d, none, .len x⟩ :: os) s acc K ↔ (match aOp c noCall s.env s.H (.len x) with
  | some (v, H', f) => WO c os ⟨putd s.env d v, H'⟩ (acc ++ [f]) K
  | none => False) := by
 rw [WO_cons rfl]
 simp only [stepO]
 cases aOp c noCall s.env s.H (.len x) <;> rfl
theorem WO_app {d : Option Nat} (k : Nat) (x y : E) {os : List O} {s : St} {acc : List Fp} {K : St -> List Fp -> Prop} : WO c (⟨d, none, .app k x y⟩ :: os) s acc K ↔ (match aOp c noCall s.env s.H (.app k x y) with
  | some (v, H', f) => WO c os ⟨putd s.env d v, H'⟩ (acc ++ [f]) K
  | none => False) := by
 rw [WO_cons rfl]
 simp only [stepO]
 cases aOp c noCall s.env s.H (.app k x y) <;> rfl
theorem WO_of {o : O} {os : List O} {s s1 : St} {f : Fp} {acc : List Fp} {K : St -> List Fp -> Prop} (hs : ∃ n, ∀ m, n <= m -> stepO c (callW c (aCode c m)) s o = some (s1, f)) (h : WO c os s1 (acc ++ [f]) K) : WO c (o :: os) s acc K := by
 obtain ⟨n1, hs⟩ := hs
 obtain ⟨n, s2, fls, h1, h2⟩ := h
 refine ⟨max n n1, s2, f :: fls, fun m hm => ?_, by simpa using h2⟩
 simp only [aOps, hs m (by omega), h1 m (by omega)]
theorem WO_want {d : Option Nat} {g : Nat} {w : Bool} {kd : Kd} {os : List O} {s : St} {acc : List Fp} {K : St -> List Fp -> Prop} (hg : get s.env g = .bool w) (h : WO c (⟨d, none, kd⟩ :: os) s acc K) :
  WO c (⟨d, some (g, w), kd⟩ :: os) s acc K := by
 obtain ⟨n, s', fls, h1, h2⟩ := h
 refine ⟨n, s', fls, fun m hm => ?_, h2⟩
 have := h1 m hm
 simpa only [aOps, stepO, hg, if_true] using this
def Pu (c : Cfg) (f : Nat) (args : List AV) (d : AV) : Prop := ∃ n, ∀ m, n <= m -> ∃ r H1 bs, callW c (aCode c m) f args [] = some (r, H1) /\ frz H1 DEEP r = some (d, bs)
theorem WO_callK {d : Option Nat} {f : Nat} {q : AFn} {xs : List E} {os : List O} {s : St} {acc : List Fp} {K : St -> List Fp -> Prop} {v : AV} {H' : Heap} (hf : c.fn f = some (.K, q)) (h : Cl c f (evs c s.env xs) s.H v H')
  (hk : WO c os ⟨putd s.env d v, H'⟩ (acc ++ [.wr 0 []]) K) : WO c (⟨d, none, .call f xs⟩ :: os) s acc K := by
 obtain ⟨n, h⟩ := h
 refine WO_of ⟨n, fun m hm => ?_⟩ hk
 have := h m hm
 unfold aCall at this
 simp only [stepO, aOp, doCall, hf, this]
theorem Cl.of {f : Nat} {md : Md} {q : AFn} {args : List AV} {H H' : Heap} {r : AV} (ho : c.orc f = none) (hf : c.fn f = some (md, q)) (hl : args.length <= q.n)
  (h : W c q.body ⟨mkEnv 0 args, H⟩ (fun e s => (e = .ret \/ e = .normal) /\ ∃ vs, resL s.H s.env q.res = some vs /\ tupOf vs = r /\ s.H = H')) : Cl c f args H r H' := by
 obtain ⟨n, e, s, h1, he, vs, h2, h3, h4⟩ := h
 subst h4
 refine ⟨n, fun m hm => ?_⟩
 unfold aCall callW
 rcases he with rfl | rfl <;> simp only [ho, hf, hl, if_true, h1 m hm, h2, h3]
theorem Pu.of {f : Nat} {args : List AV} {H1 : Heap} {r d : AV} {bs : List Nat} (h : Cl c f args [] r H1) (hz : frz H1 DEEP r = some (d, bs)) : Pu c f args d := by
 obtain ⟨n, h⟩ := h
 exact ⟨n, fun m hm => ⟨r, H1, bs, h m hm, hz⟩⟩
def isRun (o : Option (AV × Heap)) (p : AV -> Bool) : Bool :=
 match o with
 | some (r, _) => p r
 | none => false
end
end Go.Am

namespace Go.Am
section
variable {c : Cfg}
theorem callW_mono {run run' : C -> St -> Option (Ex × St)} (h : ∀ cd s r, run cd s = some r -> run' cd s = some r) (f : Nat) (args : List AV) (H : Heap) (r : AV × Heap) (hr : callW c run f args H = some r) : callW c run' f args H = some r := by
 unfold callW at hr ⊢
 cases ho : c.orc f with
 | some g => simpa only [ho] using hr
 | none =>
   simp only [ho] at hr ⊢
   cases hf : c.fn f with
   | none => simp only [hf] at hr; cases hr
   | some p =>
     obtain ⟨m, q⟩ := p
     simp only [hf] at hr ⊢
     split at hr
     ·rename_i hl
      rw [if_pos hl]
      cases hx : run q.body ⟨mkEnv 0 args, H⟩ with
      | none => rw [hx] at hr; cases hr
      | some z => rw [hx] at hr; rw [h _ _ _ hx]; exact hr
     ·cases hr
theorem doCall_mono {call call' : Nat -> List AV -> Heap -> Option (AV × Heap)} (h : ∀ f a H r, call f a H = some r -> call' f a H = some r) (f : Nat) (a : List AV) (H : Heap) (r : AV × Heap × Fp) (hr : doCall c call f a H = some r) : doCall c call' f a H = some r := by
 unfold doCall at hr ⊢
 cases hf : c.fn f with
 | none => simp only [hf] at hr; cases hr
 | some p =>
   obtain ⟨m, q⟩ := p
   cases m with
   | K =>
     simp only [hf] at hr ⊢
     cases hc : call f a H with
     | none => rw [hc] at hr; cases hr
     | some z => rw [hc] at hr; rw [h _ _ _ _ hc]; exact hr
   | T =>
     simp only [hf] at hr ⊢
     cases hc : call f a H with
     | none => rw [hc] at hr; cases hr
     | some z => rw [hc] at hr; rw [h _ _ _ _ hc]; exact hr
   | P =>
     simp only [hf] at hr ⊢
     split at hr
     ·rename_i hp
      rw [if_pos hp]
      cases hc : call f a [] with
      | none => rw [hc] at hr; cases hr
      | some z => rw [hc] at hr; rw [h _ _ _ _ hc]; exact hr
     ·rename_i hp
      rw [if_neg hp]
      cases hm : mapF (frz H DEEP) a with
      | none => rw [hm] at hr; cases hr
      | some y =>
        obtain ⟨a', bs⟩ := y
        simp only [hm] at hr ⊢
        cases hc : call f a' [] with
        | none => rw [hc] at hr; cases hr
        | some z => rw [hc] at hr; rw [h _ _ _ _ hc]; exact hr
theorem aOp_mono {call call' : Nat -> List AV -> Heap -> Option (AV × Heap)} (h : ∀ f a H r, call f a H = some r -> call' f a H = some r) {env : Env} {H : Heap} {kd : Kd} {r : AV × Heap × Fp} (hr : aOp c call env H kd = some r) : aOp c call' env H kd = some r := by
 by_cases hk : kd.isCall = false
 ·rw [<- aOp_nocall (call := call) hk]; exact hr
 ·cases kd with
  | call f xs => exact doCall_mono h _ _ _ _ hr
  | callv x xs =>
    simp only [aOp] at hr ⊢
    split at hr
    ·rename_i f as bs hx
     exact doCall_mono h _ _ _ _ hr
    ·cases hr
  | _ => simp [Kd.isCall] at hk
theorem stepO_mono {call call' : Nat -> List AV -> Heap -> Option (AV × Heap)} (h : ∀ f a H r, call f a H = some r -> call' f a H = some r) {s : St} {o : O} {r : St × Fp} (hr : stepO c call s o = some r) : stepO c call' s o = some r := by
 unfold stepO at hr ⊢
 cases hg : o.guard with
 | none =>
   simp only [hg] at hr ⊢
   cases hc : aOp c call s.env s.H o.kd with
   | none => rw [hc] at hr; cases hr
   | some z => rw [hc] at hr; rw [aOp_mono h hc]; exact hr
 | some p =>
   obtain ⟨g, w⟩ := p
   simp only [hg] at hr ⊢
   cases hv : get s.env g with
   | bool b =>
     simp only [hv] at hr ⊢
     split at hr
     ·rename_i hb
      rw [if_pos hb]
      cases hc : aOp c call s.env s.H o.kd with
      | none => rw [hc] at hr; cases hr
      | some z => rw [hc] at hr; rw [aOp_mono h hc]; exact hr
     ·rename_i hb
      rw [if_neg hb]
      exact hr
   | _ => simp only [hv] at hr ⊢; exact hr
theorem aOps_mono {call call' : Nat -> List AV -> Heap -> Option (AV × Heap)} (h : ∀ f a H r, call f a H = some r -> call' f a H = some r) : ∀ (os : List O) {s : St} {r : St × List Fp}, aOps c call os s = some r -> aOps c call' os s = some r := by
 intro os
 induction os with
 | nil => intro s r hr; exact hr
 | cons o os ih =>
   intro s r hr
   unfold aOps at hr ⊢
   cases ho : stepO c call s o with
   | none => rw [ho] at hr; cases hr
   | some p =>
     obtain ⟨s1, f⟩ := p
     simp only [ho] at hr
     simp only [stepO_mono h ho]
     cases h1 : aOps c call os s1 with
     | none => rw [h1] at hr; cases hr
     | some z => rw [h1] at hr; rw [ih h1]; exact hr
theorem aCode_mono : ∀ (n : Nat) (cd : C) (s : St) (r : Ex × St), aCode c n cd s = some r -> aCode c (n + 1) cd s = some r := by
 intro n
 induction n with
 | zero => intro cd s r h; simp [aCode] at h
 | succ n ih =>
   intro cd s r h
   have hc := callW_mono (c := c) ih
   cases cd with
   | skip => exact h
   | ret => exact h
   | exit id => exact h
   | reg os dr un keep =>
     rw [aCode] at h ⊢
     cases ho : aOps c (callW c (aCode c n)) os s with
     | none => rw [ho] at h; cases h
     | some p => rw [ho] at h; rw [aOps_mono hc os ho]; exact h
   | seq a b =>
     rw [aCode] at h ⊢
     cases ha : aCode c n a s with
     | none => rw [ha] at h; cases h
     | some p =>
       obtain ⟨e, s1⟩ := p
       rw [ha] at h
       rw [ih _ _ _ ha]
       cases e with
       | normal => exact ih _ _ _ h
       | exit id => exact h
       | ret => exact h
   | cond x a b =>
     rw [aCode] at h ⊢
     split at h
     ·rename_i t ht
      cases t
      ·exact ih _ _ _ h
      ·exact ih _ _ _ h
     ·cases h
   | blk id b =>
     rw [aCode] at h ⊢
     cases hb : aCode c n b s with
     | none => rw [hb] at h; cases h
     | some p => rw [hb] at h; rw [ih _ _ _ hb]; exact h
   | loop b =>
     rw [aCode] at h ⊢
     cases ha : aCode c n b s with
     | none => rw [ha] at h; cases h
     | some p =>
       obtain ⟨e, s1⟩ := p
       rw [ha] at h
       rw [ih _ _ _ ha]
       cases e with
       | normal => exact ih _ _ _ h
       | exit id => exact h
       | ret => exact h
theorem aCall_mono {n m : Nat} (h : n <= m) {f : Nat} {args : List AV} {H : Heap} {r : AV × Heap} (hr : aCall c n f args H = some r) : aCall c m f args H = some r := by
 induction m with
 | zero => obtain rfl : n = 0 := by omega
           exact hr
 | succ m ih =>
   by_cases hn : n = m + 1
   ·subst hn; exact hr
   ·exact callW_mono (aCode_mono m) _ _ _ _ (ih (by omega))
theorem Cl.run {n : Nat} {f : Nat} {args : List AV} {H : Heap} {r : AV} {H' : Heap} (hr : aCall c n f args H = some (r, H')) : Cl c f args H r H' := ⟨n, fun _ hm => aCall_mono hm hr⟩
def isB (t : Bool) (o : Option (AV × Heap)) : Bool :=
 match o with
 | some (.bool b, _) => b == t
 | _ => false
theorem Pu.run {n : Nat} {f : Nat} {args : List AV} {t : Bool} (hr : isB t (aCall c n f args []) = true) : Pu c f args (.bool t) := by
 cases ho : aCall c n f args [] with
 | none => rw [ho] at hr; cases hr
 | some p =>
   obtain ⟨r, H⟩ := p
   rw [ho] at hr
   cases r <;> simp [isB] at hr
   subst hr
   exact Pu.of (Cl.run ho) (bs := []) rfl

theorem WO_grd {d : Option Nat} {g : Nat} {w : Bool} {kd : Kd} {os : List O} {s : St} {acc : List Fp} {K : St -> List Fp -> Prop} : WO c (⟨d, some (g, w), kd⟩ :: os) s acc K ↔ (match get s.env g with
  | .bool b => if b = w then WO c (⟨d, none, kd⟩ :: os) s acc K else WO c os ⟨putd s.env d .undef, s.H⟩ (acc ++ [.no]) K
  | .undef => WO c os ⟨putd s.env d .undef, s.H⟩ (acc ++ [.no]) K
  | _ => False) := by
 have hs : ∀ (r : Option (St × Fp)), (∀ m, stepO c (callW c (aCode c m)) s ⟨d, some (g, w), kd⟩ = r) -> ∀ s1 f, r = some (s1, f) -> (WO c (⟨d, some (g, w), kd⟩ :: os) s acc K ↔ WO c os s1 (acc ++ [f]) K) := by
  intro r h s1 f hr
  constructor
  ·rintro ⟨n, s', fls, h1, h2⟩
   have hn := h1 n (Nat.le_refl _)
   simp only [aOps, h, hr] at hn
   split at hn
   ·rename_i s2 fls2 h3
    simp at hn
    obtain ⟨rfl, rfl⟩ := hn
    refine ⟨n, s2, fls2, fun m hm => ?_, by simpa using h2⟩
    have hm := h1 m hm
    simp only [aOps, h, hr] at hm
    split at hm
    ·rename_i s3 fls3 h4
     simp at hm
     rw [h4, hm.1, hm.2]
    ·cases hm
   ·cases hn
  ·intro h'
   exact WO_of ⟨0, fun m _ => (h m).trans hr⟩ h'
 cases hg : get s.env g with
 | bool b =>
   simp only
   by_cases hb : b = w
   ·rw [if_pos hb]
    subst hb
    refine ⟨?_, WO_want hg⟩
    rintro ⟨n, s', fls, h1, h2⟩
    refine ⟨n, s', fls, fun m hm => ?_, h2⟩
    have := h1 m hm
    simpa only [aOps, stepO, hg, if_true] using this
   ·rw [if_neg hb]
    exact hs _ (fun m => by simp only [stepO, hg, if_neg hb]) _ _ rfl
 | undef => exact hs _ (fun m => by simp only [stepO, hg]) _ _ rfl
 | _ =>
   simp only
   constructor
   ·rintro ⟨n, s', fls, h1, h2⟩
    have hn := h1 n (Nat.le_refl _)
    simp [aOps, stepO, hg] at hn
   ·intro h; exact h.elim
end
end Go.Am

namespace Go.Am
def ints (l : List Int) : AV := .list 1 (l.map (AV.int .i64))
theorem flatCells_ints (k : IntKind) (xs : List Int) : flatCells (xs.map (AV.int k)) = xs.map (AV.int k) := by
 induction xs with
 | nil => rfl
 | cons x r ih => simp [flatCells, AV.cells, ih]
theorem allLeaf_ints (k : IntKind) (xs : List Int) : allLeaf (xs.map (AV.int k)) = true := by
 induction xs with
 | nil => rfl
 | cons x r ih => simp [allLeaf, AV.leaf, ih]
end Go.Am
