/- How abstract values stand for values of the model in a world. -/
import Derived.Test.YtnffadblmhadbaaAmA
namespace Go.Am

abbrev Phi := List (Option (Nat × Nat))
def Owned (φ : Phi) (g : Nat) : Prop := ∃ b sz : Nat, φ[b]? = some (some (g, sz))
def Rd (X : Nat → Prop) (φ : Phi) (w : World) (a : Addr) (u : Value) : Prop := ¬ X a.block ∧ ¬ Owned φ a.block ∧ w.cell? a = some u

inductive Rep (R : Addr → Value → Prop) : Phi → AV → Value → Prop
  | any (φ : Phi) (v : Value) : Rep R φ .any v
  | undef (φ : Phi) : Rep R φ .undef (.tuple #[])
  | nilp (φ : Phi) : Rep R φ .nilp (.pointer none)
  | nilf (φ : Phi) : Rep R φ .nilf .nilFunc
  | nils (φ : Phi) : Rep R φ .nils (.slice none 0 0)
  | int (φ : Phi) (k : IntKind) (n : Int) : Rep R φ (.int k n) (.int k n)
  | bool (φ : Phi) (b : Bool) : Rep R φ (.bool b) (.bool b)
  | str (φ : Phi) (s : ByteArray) : Rep R φ (.str s) (.string s)
  | agg (φ : Phi) (cs : List AV) (vs : Array Value) (hl : cs.length = vs.size) (h : ∀ (i : Nat) (c : AV) (v : Value), cs[i]? = some c → vs[i]? = some v → Rep R φ c v) : Rep R φ (.agg cs) (.agg vs)
  | tup (φ : Phi) (cs : List AV) (vs : Array Value) (hl : cs.length = vs.size) (h : ∀ (i : Nat) (c : AV) (v : Value), cs[i]? = some c → vs[i]? = some v → Rep R φ c v) : Rep R φ (.tup cs) (.tuple vs)
  | func (φ : Phi) (f : Fn) (as : List AV) (va : Array Value) (bs : List AV) (vb : Array Value) (hla : as.length = va.size) (hlb : bs.length = vb.size)
      (ha : ∀ (i : Nat) (c : AV) (v : Value), as[i]? = some c → va[i]? = some v → Rep R φ c v) (hb : ∀ (i : Nat) (c : AV) (v : Value), bs[i]? = some c → vb[i]? = some v → Rep R φ c v) : Rep R φ (.func f as bs) (.func f va vb)
  | lst (φ : Phi) (k : Nat) (xs : List AV) (a : Addr) (n cap : Nat) (u : Nat → Nat → Value) (hn : n = xs.length) (hcap : n ≤ cap) (hk : ∀ x ∈ xs, x.cells.length = k)
      (hu : ∀ (i j : Nat) (x c : AV), xs[i]? = some x → x.cells[j]? = some c → R (a.add (i * k + j)) (u i j))
      (h : ∀ (i j : Nat) (x c : AV), xs[i]? = some x → x.cells[j]? = some c → Rep R [] c (u i j)) : Rep R φ (.list k xs) (.slice (some a) n cap)
  | lst0 (φ : Phi) (k : Nat) : Rep R φ (.list k []) (.slice none 0 0)
  | fptr (φ : Phi) (cs : List AV) (a : Addr) (u : Nat → Value) (hu : ∀ (j : Nat) (c : AV), cs[j]? = some c → R (a.add j) (u j))
      (h : ∀ (j : Nat) (c : AV), cs[j]? = some c → Rep R [] c (u j)) : Rep R φ (.fptr cs) (.pointer (some a))
  | ptr (φ : Phi) (b off : Nat) (a : Addr) (hb : b < φ.length) (h : ∀ g sz : Nat, φ[b]? = some (some (g, sz)) → a = ⟨g, off, none⟩) : Rep R φ (.ptr b off) (.pointer (some a))
  | sl (φ : Phi) (k b off len : Nat) (a : Addr) (cap : Nat) (hb : b < φ.length) (hc : len ≤ cap)
      (h : ∀ g sz : Nat, φ[b]? = some (some (g, sz)) → (0 < cap → a = ⟨g, off, none⟩) ∧ off + cap * k ≤ sz) : Rep R φ (.sl k b off len) (.slice (some a) len cap)

theorem getElem?_some_of {α : Type} {l : List α} {i : Nat} (h : i < l.length) : ∃ x, l[i]? = some x := ⟨l[i], List.getElem?_eq_getElem h⟩
theorem agetElem?_some_of {α : Type} {l : Array α} {i : Nat} (h : i < l.size) : ∃ x, l[i]? = some x := ⟨l[i], Array.getElem?_eq_getElem h⟩
theorem lt_of_getElem? {α : Type} {l : List α} {i : Nat} {x : α} (h : l[i]? = some x) : i < l.length := (List.getElem?_eq_some_iff.1 h).1
theorem alt_of_getElem? {α : Type} {l : Array α} {i : Nat} {x : α} (h : l[i]? = some x) : i < l.size := (Array.getElem?_eq_some_iff.1 h).1

/-- What a later view of the blocks keeps: a block that is still known is where it was. -/
structure PhiLe (φ φ' : Phi) : Prop where
  len : φ.length ≤ φ'.length
  old : ∀ (b : Nat) (p : Nat × Nat), b < φ.length → φ'[b]? = some (some p) → φ[b]? = some (some p)
theorem PhiLe.refl (φ : Phi) : PhiLe φ φ := ⟨Nat.le_refl _, fun _ _ _ h => h⟩
theorem PhiLe.trans {a b c : Phi} (h : PhiLe a b) (k : PhiLe b c) : PhiLe a c :=
  ⟨Nat.le_trans h.len k.len, fun i p hi hp => h.old i p hi (k.old i p (Nat.lt_of_lt_of_le hi h.len) hp)⟩

theorem Rep.mono {R R' : Addr → Value → Prop} (hR : ∀ a u, R a u → R' a u) {φ : Phi} {x : AV} {v : Value} (h : Rep R φ x v) : ∀ {φ' : Phi}, PhiLe φ φ' → Rep R' φ' x v := by
  induction h with
  | any => intro φ' _; exact .any _ _
  | undef => intro φ' _; exact .undef _
  | nilp => intro φ' _; exact .nilp _
  | nilf => intro φ' _; exact .nilf _
  | nils => intro φ' _; exact .nils _
  | int => intro φ' _; exact .int _ _ _
  | bool => intro φ' _; exact .bool _ _
  | str => intro φ' _; exact .str _ _
  | agg φ cs vs hl h ih => intro φ' hp; exact .agg _ _ _ hl fun i c v h1 h2 => ih i c v h1 h2 hp
  | tup φ cs vs hl h ih => intro φ' hp; exact .tup _ _ _ hl fun i c v h1 h2 => ih i c v h1 h2 hp
  | func φ f as va bs vb hla hlb ha hb iha ihb => intro φ' hp; exact .func _ _ _ _ _ _ hla hlb (fun i c v h1 h2 => iha i c v h1 h2 hp) (fun i c v h1 h2 => ihb i c v h1 h2 hp)
  | lst φ k xs a n cap u hn hcap hk hu h ih => intro φ' _; exact .lst _ _ _ _ _ _ u hn hcap hk (fun i j x c h1 h2 => hR _ _ (hu i j x c h1 h2)) (fun i j x c h1 h2 => ih i j x c h1 h2 (.refl _))
  | lst0 => intro φ' _; exact .lst0 _ _
  | fptr φ cs a u hu h ih => intro φ' _; exact .fptr _ _ _ u (fun j c h1 => hR _ _ (hu j c h1)) (fun j c h1 => ih j c h1 (.refl _))
  | ptr φ b off a hb h => intro φ' hp; exact .ptr _ _ _ _ (Nat.lt_of_lt_of_le hb hp.len) fun g sz hg => h g sz (hp.old _ _ hb hg)
  | sl φ k b off len a cap hb hc h => intro φ' hp; exact .sl _ _ _ _ _ _ _ (Nat.lt_of_lt_of_le hb hp.len) hc fun g sz hg => h g sz (hp.old _ _ hb hg)

theorem plainL_mem {cs : List AV} (h : plainL cs = true) : ∀ (i : Nat) (c : AV), cs[i]? = some c → c.plain = true := by
  induction cs with
  | nil => intro i c hc; simp at hc
  | cons x r ih =>
    simp only [plainL, Bool.and_eq_true] at h
    intro i c hc
    cases i with
    | zero => simp at hc; subst hc; exact h.1
    | succ i => simp at hc; exact ih h.2 i c hc
theorem flatL_mem {cs : List AV} (h : flatL cs = true) : ∀ (i : Nat) (c : AV), cs[i]? = some c → c.flat = true := by
  induction cs with
  | nil => intro i c hc; simp at hc
  | cons x r ih =>
    simp only [flatL, Bool.and_eq_true] at h
    intro i c hc
    cases i with
    | zero => simp at hc; subst hc; exact h.1
    | succ i => simp at hc; exact ih h.2 i c hc
theorem refsLtL_mem {n : Nat} {cs : List AV} (h : refsLtL n cs = true) : ∀ (i : Nat) (c : AV), cs[i]? = some c → c.refsLt n = true := by
  induction cs with
  | nil => intro i c hc; simp at hc
  | cons x r ih =>
    simp only [refsLtL, Bool.and_eq_true] at h
    intro i c hc
    cases i with
    | zero => simp at hc; subst hc; exact h.1
    | succ i => simp at hc; exact ih h.2 i c hc
theorem allLeaf_mem {cs : List AV} (h : allLeaf cs = true) : ∀ (i : Nat) (c : AV), cs[i]? = some c → c.leaf = true := by
  induction cs with
  | nil => intro i c hc; simp at hc
  | cons x r ih =>
    simp only [allLeaf, Bool.and_eq_true] at h
    intro i c hc
    cases i with
    | zero => simp at hc; subst hc; exact h.1
    | succ i => simp at hc; exact ih h.2 i c hc

/-- A value without references needs no view of the blocks. -/
theorem Rep.of_plain {R : Addr → Value → Prop} {φ : Phi} {x : AV} {v : Value} (h : Rep R φ x v) : x.plain = true → ∀ ψ, Rep R ψ x v := by
  induction h with
  | any => intro _ ψ; exact .any _ _
  | undef => intro _ ψ; exact .undef _
  | nilp => intro _ ψ; exact .nilp _
  | nilf => intro _ ψ; exact .nilf _
  | nils => intro _ ψ; exact .nils _
  | int => intro _ ψ; exact .int _ _ _
  | bool => intro _ ψ; exact .bool _ _
  | str => intro _ ψ; exact .str _ _
  | agg φ cs vs hl h ih => intro hp ψ; simp only [AV.plain] at hp; exact .agg _ _ _ hl fun i c v h1 h2 => ih i c v h1 h2 (plainL_mem hp i c h1) ψ
  | tup φ cs vs hl h ih => intro hp ψ; simp only [AV.plain] at hp; exact .tup _ _ _ hl fun i c v h1 h2 => ih i c v h1 h2 (plainL_mem hp i c h1) ψ
  | func φ f as va bs vb hla hlb ha hb iha ihb =>
    intro hp ψ
    simp only [AV.plain, Bool.and_eq_true] at hp
    exact .func _ _ _ _ _ _ hla hlb (fun i c v h1 h2 => iha i c v h1 h2 (plainL_mem hp.1 i c h1) ψ) (fun i c v h1 h2 => ihb i c v h1 h2 (plainL_mem hp.2 i c h1) ψ)
  | lst φ k xs a n cap u hn hcap hk hu h ih => intro _ ψ; exact .lst _ _ _ _ _ _ u hn hcap hk hu h
  | lst0 => intro _ ψ; exact .lst0 _ _
  | fptr φ cs a u hu h ih => intro _ ψ; exact .fptr _ _ _ u hu h
  | ptr => intro hp; simp [AV.plain] at hp
  | sl => intro hp; simp [AV.plain] at hp
/-- A value that holds no slice and no pointer reads nothing. -/
theorem Rep.of_flat {R : Addr → Value → Prop} {φ : Phi} {x : AV} {v : Value} (h : Rep R φ x v) : x.flat = true → ∀ (R' : Addr → Value → Prop) ψ, Rep R' ψ x v := by
  induction h with
  | any => intro _ _ ψ; exact .any _ _
  | undef => intro _ _ ψ; exact .undef _
  | nilp => intro _ _ ψ; exact .nilp _
  | nilf => intro _ _ ψ; exact .nilf _
  | nils => intro _ _ ψ; exact .nils _
  | int => intro _ _ ψ; exact .int _ _ _
  | bool => intro _ _ ψ; exact .bool _ _
  | str => intro _ _ ψ; exact .str _ _
  | agg φ cs vs hl h ih => intro hp R' ψ; simp only [AV.flat] at hp; exact .agg _ _ _ hl fun i c v h1 h2 => ih i c v h1 h2 (flatL_mem hp i c h1) R' ψ
  | tup φ cs vs hl h ih => intro hp R' ψ; simp only [AV.flat] at hp; exact .tup _ _ _ hl fun i c v h1 h2 => ih i c v h1 h2 (flatL_mem hp i c h1) R' ψ
  | func φ f as va bs vb hla hlb ha hb iha ihb =>
    intro hp R' ψ
    simp only [AV.flat, Bool.and_eq_true] at hp
    exact .func _ _ _ _ _ _ hla hlb (fun i c v h1 h2 => iha i c v h1 h2 (flatL_mem hp.1 i c h1) R' ψ) (fun i c v h1 h2 => ihb i c v h1 h2 (flatL_mem hp.2 i c h1) R' ψ)
  | lst => intro hp; simp [AV.flat] at hp
  | lst0 => intro hp; simp [AV.flat] at hp
  | fptr => intro hp; simp [AV.flat] at hp
  | ptr => intro hp; simp [AV.flat] at hp
  | sl => intro hp; simp [AV.flat] at hp
/-- A value whose references are all older than block n needs the older blocks alone. -/
theorem Rep.take {R : Addr → Value → Prop} {φ : Phi} {x : AV} {v : Value} {n : Nat} (h : Rep R φ x v) : x.refsLt n = true → Rep R (φ.take n) x v := by
  induction h with
  | any => intro _; exact .any _ _
  | undef => intro _; exact .undef _
  | nilp => intro _; exact .nilp _
  | nilf => intro _; exact .nilf _
  | nils => intro _; exact .nils _
  | int => intro _; exact .int _ _ _
  | bool => intro _; exact .bool _ _
  | str => intro _; exact .str _ _
  | agg φ cs vs hl h ih => intro hp; simp only [AV.refsLt] at hp; exact .agg _ _ _ hl fun i c v h1 h2 => ih i c v h1 h2 (refsLtL_mem hp i c h1)
  | tup φ cs vs hl h ih => intro hp; simp only [AV.refsLt] at hp; exact .tup _ _ _ hl fun i c v h1 h2 => ih i c v h1 h2 (refsLtL_mem hp i c h1)
  | func φ f as va bs vb hla hlb ha hb iha ihb =>
    intro hp
    simp only [AV.refsLt, Bool.and_eq_true] at hp
    exact .func _ _ _ _ _ _ hla hlb (fun i c v h1 h2 => iha i c v h1 h2 (refsLtL_mem hp.1 i c h1)) (fun i c v h1 h2 => ihb i c v h1 h2 (refsLtL_mem hp.2 i c h1))
  | lst φ k xs a n cap u hn hcap hk hu h ih => intro _; exact .lst _ _ _ _ _ _ u hn hcap hk hu h
  | lst0 => intro _; exact .lst0 _ _
  | fptr φ cs a u hu h ih => intro _; exact .fptr _ _ _ u hu h
  | ptr φ b off a hb h =>
    intro hp
    have hp' : b < n := by simpa [AV.refsLt] using hp
    refine .ptr _ _ _ _ (by rw [List.length_take]; omega) fun g sz hg => h g sz ?_
    rw [List.getElem?_take_of_lt hp'] at hg
    exact hg
  | sl φ k b off len a cap hb hc h =>
    intro hp
    have hp' : b < n := by simpa [AV.refsLt] using hp
    refine .sl _ _ _ _ _ _ _ (by rw [List.length_take]; omega) hc fun g sz hg => h g sz ?_
    rw [List.getElem?_take_of_lt hp'] at hg
    exact hg
theorem Rep.oneCell {R : Addr → Value → Prop} {φ : Phi} {x : AV} {v : Value} (h : Rep R φ x v) (hl : x.leaf = true) : v.oneCell' = true := by
  cases h <;> first | rfl | simp [AV.leaf] at hl

/-- The cells of a value, in the model. -/
def vcells : Value → List Value
  | .agg cs => cs.toList
  | v => [v]
theorem vcells_eq (v : Value) : vcells v = v.cells.toList := by cases v <;> simp [vcells, Value.cells]
/-- A whole value's cells stand for its cells, one by one, where the value is a struct or one cell. -/
theorem Rep.cells {R : Addr → Value → Prop} {φ : Phi} {x : AV} {v : Value} (h : Rep R φ x v) (hs : allLeaf x.cells = true) :
    x.cells.length = v.cells.size ∧ ∀ (i : Nat) (c : AV), x.cells[i]? = some c → ∃ u, v.cells[i]? = some u ∧ Rep R φ c u ∧ u.oneCell' = true := by
  have one : ∀ {x : AV} {v : Value}, x.cells = [x] → v.cells = #[v] → Rep R φ x v → allLeaf x.cells = true →
      x.cells.length = v.cells.size ∧ ∀ (i : Nat) (c : AV), x.cells[i]? = some c → ∃ u, v.cells[i]? = some u ∧ Rep R φ c u ∧ u.oneCell' = true := by
    intro x v hx hv h hs
    rw [hx, hv]
    refine ⟨rfl, fun i c hc => ?_⟩
    cases i with
    | zero =>
      simp at hc; subst hc
      refine ⟨v, by simp, h, h.oneCell ?_⟩
      rw [hx] at hs; simpa [allLeaf] using hs
    | succ i => simp at hc
  cases h with
  | any => simp [AV.cells, allLeaf, AV.leaf] at hs
  | agg φ cs vs hl h =>
    refine ⟨hl, fun i c hc => ?_⟩
    have hi : i < vs.size := hl ▸ lt_of_getElem? hc
    obtain ⟨u, hu⟩ := agetElem?_some_of hi
    exact ⟨u, hu, h i c u hc hu, (h i c u hc hu).oneCell (allLeaf_mem hs i c hc)⟩
  | _ => exact one rfl rfl (by first | exact .undef _ | exact .nilp _ | exact .nilf _ | exact .nils _ | exact .int _ _ _ | exact .bool _ _ | exact .str _ _ | exact .lst0 _ _ | (constructor <;> assumption)) hs

structure HRel (X : Nat → Prop) (φ : Phi) (w : World) (H : Heap) : Prop where
  len : φ.length = H.length
  xlt : ∀ g, X g → g < w.heap.size
  live : ∀ (b : Nat) (cs : List AV), H[b]? = some (some cs) → ∃ (g sz : Nat) (arr : Array Value) (e : TypeId), φ[b]? = some (some (g, sz)) ∧ w.heap[g]? = some (.cells arr e (0, 0)) ∧ arr.size = sz ∧ cs.length ≤ sz ∧ ¬ X g ∧
    ∀ (i : Nat) (c : AV), cs[i]? = some c → ∃ u, arr[i]? = some u ∧ Rep (Rd X φ w) φ c u
  dead : ∀ b : Nat, H[b]? = some none → φ[b]? = some none
  inj : ∀ b b' g sz sz' : Nat, φ[b]? = some (some (g, sz)) → φ[b']? = some (some (g, sz')) → b = b'

structure Adv (φ : Phi) (w : World) (φ' : Phi) (w' : World) : Prop where
  os : w'.os = w.os
  tape : w'.tape = w.tape
  output : w'.output = w.output
  size : w.heap.size ≤ w'.heap.size
  keep : ∀ g, g < w.heap.size → ¬ Owned φ g → w'.heap[g]? = w.heap[g]? ∧ ¬ Owned φ' g
  phi : PhiLe φ φ'
theorem Adv.refl (φ : Phi) (w : World) : Adv φ w φ w := ⟨rfl, rfl, rfl, Nat.le_refl _, fun _ _ h => ⟨rfl, h⟩, .refl _⟩
theorem Adv.trans {φ φ' φ'' : Phi} {w w' w'' : World} (h : Adv φ w φ' w') (k : Adv φ' w' φ'' w'') : Adv φ w φ'' w'' :=
  ⟨k.os.trans h.os, k.tape.trans h.tape, k.output.trans h.output, Nat.le_trans h.size k.size,
   fun g hg ho => ⟨(k.keep g (Nat.lt_of_lt_of_le hg h.size) (h.keep g hg ho).2).1.trans (h.keep g hg ho).1, (k.keep g (Nat.lt_of_lt_of_le hg h.size) (h.keep g hg ho).2).2⟩, h.phi.trans k.phi⟩
theorem Adv.rd {X : Nat → Prop} {φ φ' : Phi} {w w' : World} (h : Adv φ w φ' w') : ∀ a u, Rd X φ w a u → Rd X φ' w' a u := by
  intro a u ⟨h1, h2, h3⟩
  have hlt := World.block_lt_of_cell? w a h3
  exact ⟨h1, (h.keep _ hlt h2).2, (World.cell?_of_block (h.keep _ hlt h2).1).trans h3⟩
theorem Adv.rep {X : Nat → Prop} {φ φ' : Phi} {w w' : World} (h : Adv φ w φ' w') {x : AV} {v : Value} (r : Rep (Rd X φ w) φ x v) : Rep (Rd X φ' w') φ' x v := r.mono h.rd h.phi
theorem Adv.drew (φ : Phi) (w : World) : Adv φ w φ w.drew := ⟨rfl, rfl, rfl, Nat.le_refl _, fun _ _ h => ⟨rfl, h⟩, .refl _⟩

def ERel (X : Nat → Prop) (φ : Phi) (w : World) (env : Env) (tmps : Array Value) : Prop := ∀ i, Rep (Rd X φ w) φ (get env i) (tmps.getD i undef)
theorem get_put (env : Env) (d : Nat) (v : AV) (i : Nat) : get (put env d v) i = if i = d then v else get env i := by
  induction env with
  | nil => by_cases h : i = d <;> simp [put, get, h]
  | cons p r ih =>
    obtain ⟨j, u⟩ := p
    unfold put
    split
    · by_cases h : i = d <;> simp [get, h]
    · split
      · rename_i h1 h2
        subst h2
        by_cases h : i = d <;> simp [get, h]
      · rename_i h1 h2
        simp only [get, ih]
        by_cases h : i = j
        · subst h; simp [Ne.symm h2]
        · simp [h]
theorem get_keepIn (keep : List Nat) (env : Env) (i : Nat) : get (keepIn keep env) i = get env i ∨ get (keepIn keep env) i = .any := by
  induction env with
  | nil => left; rfl
  | cons p r ih =>
    obtain ⟨j, u⟩ := p
    unfold keepIn
    split
    · simp only [get]
      split
      · left; rfl
      · exact ih
    · rename_i hm
      simp only [get]
      split
      · rename_i hij
        subst hij
        right
        clear ih
        induction r with
        | nil => rfl
        | cons q r ih =>
          obtain ⟨l, u'⟩ := q
          unfold keepIn
          split
          · rename_i hl
            simp only [get]
            have : i ≠ l := fun e => hm (e ▸ hl)
            simp [this, ih]
          · exact ih
      · exact ih
theorem ERel.put {X : Nat → Prop} {φ : Phi} {w : World} {env : Env} {tmps : Array Value} (h : ERel X φ w env tmps) {d : Nat} (hd : d < tmps.size) {x : AV} {v : Value} (r : Rep (Rd X φ w) φ x v) :
    ERel X φ w (put env d x) (tmps.setIfInBounds d v) := by
  intro i
  rw [get_put]
  by_cases hi : i = d
  · subst hi
    simp [hd, r]
  · have := h i
    simpa [hi, Array.getElem?_setIfInBounds_ne (Ne.symm hi)] using this
theorem ERel.keepIn {X : Nat → Prop} {φ : Phi} {w : World} {env : Env} {tmps : Array Value} (h : ERel X φ w env tmps) (keep : List Nat) : ERel X φ w (keepIn keep env) tmps := by
  intro i
  rcases get_keepIn keep env i with e | e <;> rw [e]
  · exact h i
  · exact .any _ _
theorem ERel.adv {X : Nat → Prop} {φ φ' : Phi} {w w' : World} {env : Env} {tmps : Array Value} (h : ERel X φ w env tmps) (k : Adv φ w φ' w') : ERel X φ' w' env tmps := fun i => k.rep (h i)

theorem Addr.add_add (a : Addr) (n m : Nat) : (a.add n).add m = a.add (n + m) := by
  unfold Addr.add
  by_cases hn : n = 0
  · subst hn; simp
  · by_cases hm : m = 0
    · subst hm; simp [hn]
    · simp [hn, hm, Nat.add_assoc]
theorem Addr.add_none (g o n : Nat) : Addr.add ⟨g, o, none⟩ n = ⟨g, o + n, none⟩ := Addr.add_lit g o n
end Go.Am
