/- What one operation of the dump does is what the compact operation says: the operations that call nothing. -/
import Derived.Test.YtnffadblmhadbaaAmD
namespace Go.Am

def GlOK (c : Cfg) (X : Nat → Prop) (φ : Phi) (w : World) : Prop := ∀ g, Rep (Rd X φ w) [] (.fptr (c.gl g)) (.pointer (some ⟨g, 0, none⟩))
theorem GlOK.adv {c : Cfg} {X : Nat → Prop} {φ φ' : Phi} {w w' : World} (h : GlOK c X φ w) (a : Adv φ w φ' w') : GlOK c X φ' w' := fun g => (h g).mono a.rd (.refl _)

/-- The operation ends with a value that stands for v, in a world of the heap H'. -/
def Ok (P : Program) (X : Nat → Prop) (φ : Phi) (w : World) (o : Oper) (a : Act) (v : AV) (H' : Heap) : Prop :=
  ∀ (K : Act → World → Prop) (Q : Exit → Act → World → Prop), (∀ v' w' φ', Rep (Rd X φ' w') φ' v v' → HRel X φ' w' H' → Adv φ w φ' w' → K (a.put o.dst v') w') → o.wp P a w K Q

section
variable {P : Program} {c : Cfg} {X : Nat → Prop} {φ : Phi} {w : World} {env : Env} {H : Heap} {a : Act} {o : Oper}

theorem Ok.value {v : AV} {v' : Value} {w' : World} {H' : Heap} {φ' : Phi} (hr : (execOp a.eval o).run P w = .ok (.value v') w') (r : Rep (Rd X φ' w') φ' v v') (h : HRel X φ' w' H') (k : Adv φ w φ' w') : Ok P X φ w o a v H' := by
  intro K Q hK
  unfold Oper.wp
  rw [hr]
  exact hK v' w' φ' r h k
theorem Ok.quiet {v : AV} {v' : Value} (hr : (execOp a.eval o).run P w = .ok (.value v') w) (r : Rep (Rd X φ w) φ v v') (h : HRel X φ w H) : Ok P X φ w o a v H := Ok.value hr r h (.refl _ _)
theorem Ok.skip {w' : World} {H' : Heap} {φ' : Phi} (hr : (execOp a.eval o).run P w = .ok .skip w') (h : HRel X φ' w' H') (k : Adv φ w φ' w') : Ok P X φ w o a .undef H' := by
  intro K Q hK
  unfold Oper.wp
  rw [hr]
  exact hK undef w' φ' (.undef _) h k

theorem chkV0_rep {R : Addr → Value → Prop} {ψ : Phi} {v : Value} {x : AV} (h : chkV0 v x = true) : Rep R ψ x v := by
  unfold chkV0 at h
  split at h
  · simp at h; subst h; exact .bool _ _
  · simp at h; obtain ⟨rfl, rfl⟩ := h; exact .int _ _ _
  · exact .nils _
  · exact .nilp _
  · exact .nilf _
  · rename_i vs
    have : vs = #[] := by simpa using h
    subst this
    exact .undef _
  · cases h
theorem chkVs_rep {R : Addr → Value → Prop} {ψ : Phi} : ∀ {vs : List Value} {xs : List AV}, chkVs vs xs = true → xs.length = vs.length ∧ ∀ (i : Nat) (x : AV) (v : Value), xs[i]? = some x → vs[i]? = some v → Rep R ψ x v
  | [], [], _ => ⟨rfl, fun i x v hx => by simp at hx⟩
  | [], _ :: _, h => by simp [chkVs] at h
  | _ :: _, [], h => by simp [chkVs] at h
  | v :: r, x :: s, h => by
    simp only [chkVs, Bool.and_eq_true] at h
    obtain ⟨hl, hm⟩ := chkVs_rep (R := R) (ψ := ψ) h.2
    refine ⟨by simp [hl], fun i y u hy hu => ?_⟩
    cases i with
    | zero => simp at hy hu; subst hy; subst hu; exact chkV0_rep h.1
    | succ i => simp at hy hu; exact hm i y u hy hu
theorem chkV_rep {R : Addr → Value → Prop} {ψ : Phi} {v : Value} {x : AV} (h : chkV v x = true) : Rep R ψ x v := by
  unfold chkV at h
  split at h
  · rename_i cs ds
    obtain ⟨hl, hm⟩ := chkVs_rep (R := R) (ψ := ψ) h
    exact .agg _ _ _ (by simpa using hl) fun i x v hx hv => hm i x v hx (by simpa using hv)
  · exact chkV0_rep h
theorem eval_rep (he : ERel X φ w env a.tmps) (hg : GlOK c X φ w) {x : Operand} {y : E} (h : chkE x y = true) : Rep (Rd X φ w) φ (ev c env y) (a.eval x) := by
  unfold chkE at h
  split at h
  · simp at h; subst h; exact he _
  · exact chkV_rep h
  · simp at h; subst h
    exact .func _ _ _ _ _ _ rfl rfl (fun i c v hc => by simp at hc) (fun i c v hc => by simp at hc)
  · simp at h; subst h; exact (hg _).of_plain rfl _
  · cases h

def ARel (X : Nat → Prop) (φ : Phi) (w : World) (xs : List AV) (vs : Array Value) : Prop := xs.length = vs.size ∧ ∀ (i : Nat) (x : AV) (v : Value), xs[i]? = some x → vs[i]? = some v → Rep (Rd X φ w) φ x v
theorem evals_rep (he : ERel X φ w env a.tmps) (hg : GlOK c X φ w) : ∀ {xs : List Operand} {ys : List E}, chkEs xs ys = true →
    (evs c env ys).length = xs.length ∧ ∀ (i : Nat) (x : AV) (v : Value), (evs c env ys)[i]? = some x → (xs.map a.eval)[i]? = some v → Rep (Rd X φ w) φ x v
  | [], [], _ => ⟨rfl, fun i x v hx => by simp [evs] at hx⟩
  | [], _ :: _, h => by simp [chkEs] at h
  | _ :: _, [], h => by simp [chkEs] at h
  | x :: r, y :: s, h => by
    simp only [chkEs, Bool.and_eq_true] at h
    obtain ⟨hl, hm⟩ := evals_rep he hg h.2
    refine ⟨by simp [evs, hl], fun i z v hz hv => ?_⟩
    cases i with
    | zero => simp [evs] at hz hv; subst hz; subst hv; exact eval_rep he hg h.1
    | succ i => simp [evs] at hz; simp at hv; exact hm i z v hz (by simpa using hv)

/-! Places -/
def Plc (X : Nat → Prop) (φ : Phi) (w : World) (cs : List AV) (ad : Addr) : Prop := ∀ (j : Nat) (x : AV), cs[j]? = some x → ∃ u, w.cell? (ad.add j) = some u ∧ Rep (Rd X φ w) φ x u
theorem Rep.mono0 {R : Addr → Value → Prop} {x : AV} {v : Value} (h : Rep R [] x v) (φ : Phi) : Rep R φ x v := h.mono (fun _ _ h => h) ⟨Nat.zero_le _, fun b p hb => by simp at hb⟩
theorem Plc.of_fptr {cs : List AV} {v : Value} (h : Rep (Rd X φ w) φ (.fptr cs) v) : ∃ ad, v = .pointer (some ad) ∧ Plc X φ w cs ad := by
  cases h with
  | fptr _ _ ad u hu h => exact ⟨ad, rfl, fun j x hx => ⟨u j, (hu j x hx).2.2, (h j x hx).mono0 φ⟩⟩
theorem Plc.of_ptr (hh : HRel X φ w H) {b off : Nat} {cs : List AV} (hb : blk H b = some cs) {v : Value} (h : Rep (Rd X φ w) φ (.ptr b off) v) :
    ∃ g sz arr e, v = .pointer (some ⟨g, off, none⟩) ∧ φ[b]? = some (some (g, sz)) ∧ w.heap[g]? = some (.cells arr e (0, 0)) ∧ arr.size = sz ∧ cs.length ≤ sz ∧ ¬ X g ∧
      (∀ (i : Nat) (c : AV), cs[i]? = some c → ∃ u, arr[i]? = some u ∧ Rep (Rd X φ w) φ c u) ∧ Plc X φ w (cs.drop off) ⟨g, off, none⟩ := by
  obtain ⟨g, sz, arr, e, h1, h2, h3, h4, h5, h6⟩ := hh.at hb
  cases h with
  | ptr _ _ _ ad hbl hp =>
    obtain rfl := hp g sz h1
    refine ⟨g, sz, arr, e, rfl, h1, h2, h3, h4, h5, h6, fun j x hx => ?_⟩
    rw [List.getElem?_drop] at hx
    obtain ⟨u, hu, r⟩ := h6 _ _ hx
    exact ⟨u, by rw [Addr.add_none, cell_of_heap h2]; exact hu, r⟩
/-- The values of the cells of a place. -/
theorem Plc.values {cs : List AV} {ad : Addr} (h : Plc X φ w cs ad) : ∀ n, n ≤ cs.length → ∃ vs : List Value, vs.length = n ∧ (∀ (j : Nat) (v : Value), vs[j]? = some v → w.cell? (ad.add j) = some v) ∧
    ∀ (j : Nat) (x : AV) (v : Value), (cs.take n)[j]? = some x → vs[j]? = some v → Rep (Rd X φ w) φ x v
  | 0, _ => ⟨[], rfl, fun j v hv => by simp at hv, fun j x v hx => by simp at hx⟩
  | n + 1, hn => by
    obtain ⟨vs, hl, h1, h2⟩ := Plc.values h n (by omega)
    obtain ⟨x, hx⟩ := getElem?_some_of (l := cs) (i := n) (by omega)
    obtain ⟨u, hu, r⟩ := h n x hx
    refine ⟨vs ++ [u], by simp [hl], fun j v hv => ?_, fun j y v hy hv => ?_⟩
    · by_cases hj : j < vs.length
      · rw [List.getElem?_append_left hj] at hv; exact h1 j v hv
      · have hlt := lt_of_getElem? hv
        simp at hlt
        have hje : j = n := by omega
        subst hje
        rw [List.getElem?_append_right (by omega)] at hv
        simp [hl] at hv
        subst hv
        exact hu
    · by_cases hj : j < vs.length
      · rw [List.getElem?_append_left hj] at hv
        rw [List.getElem?_take_of_lt (by omega)] at hy
        exact h2 j y v (by rw [List.getElem?_take_of_lt (by omega)]; exact hy) hv
      · have hlt := lt_of_getElem? hv
        simp at hlt
        have hje : j = n := by omega
        subst hje
        rw [List.getElem?_append_right (by omega)] at hv
        simp [hl] at hv
        subst hv
        rw [List.getElem?_take_of_lt (by omega), hx] at hy
        simp at hy
        subst hy
        exact r

theorem run_info {t : TypeId} {i : TypeInfo} (h : P.info? t = some i) : (typeInfo t).run P w = .ok i w := by simp [typeInfo, h]
theorem run_size {t : TypeId} {i : TypeInfo} (h : P.info? t = some i) : (sizeOf t).run P w = .ok i.size w := by simp [sizeOf, run_info h]
theorem run_zero {t : TypeId} {i : TypeInfo} {z : Value} (h : P.info? t = some i) (hz : i.zero = some z) : (zeroValue t).run P w = .ok z w := by simp [zeroValue, run_info h, hz]

theorem aggOf_some {t : TypeId} {k : Nat} (h : aggOf P t = some (some k)) : ∃ i, P.info? t = some i ∧ i.size = k ∧ (isAgg t).run P w = .ok true w := by
  unfold aggOf at h
  split at h
  · rename_i fs hu
    split at h
    · rename_i i hi
      exact ⟨i, hi, by simpa using h, by simp [isAgg, run_underlying hu]⟩
    · cases h
  · rename_i n e hu
    split at h
    · rename_i i hi
      exact ⟨i, hi, by simpa using h, by simp [isAgg, run_underlying hu]⟩
    · cases h
  · simp at h
  · cases h
theorem aggOf_none {t : TypeId} (h : aggOf P t = some none) : (isAgg t).run P w = .ok false w := by
  unfold aggOf at h
  split at h
  · split at h <;> simp at h
  · split at h <;> simp at h
  · rename_i d h1 h2 hu
    simp only [isAgg, Sem.run_bind, run_underlying hu, Result.andThen_ok]
    rfl
  · cases h
theorem load_ok {t : TypeId} {ag : Option Nat} (ha : aggOf P t = some ag) {cs : List AV} {x : AV} (hx : rdc ag cs = some x) {ad : Addr} (hp : Plc X φ w cs ad) :
    ∃ v, (loadVar t ad).run P w = .ok v w ∧ Rep (Rd X φ w) φ x v := by
  cases ag with
  | some k =>
    obtain ⟨i, hi, hk, hag⟩ := aggOf_some (w := w) ha
    simp only [rdc] at hx
    split at hx
    · rename_i hle
      simp at hx
      subst hx
      obtain ⟨vs, hl, h1, h2⟩ := hp.values k hle
      have hlc := run_loadCells_list (P := P) w ad vs h1
      refine ⟨.agg vs.toArray, ?_, .agg _ _ _ (by simp [hl]; omega) fun i c v hc hv => h2 i c v hc (by simpa using hv)⟩
      simp only [loadVar, Sem.run_bind, hag, Result.andThen_ok, if_true, run_size hi, hk]
      rw [← hl, hlc]
      simp
    · cases hx
  | none =>
    have hag := aggOf_none (P := P) (w := w) ha
    simp only [rdc] at hx
    cases cs with
    | nil => simp at hx
    | cons y r =>
      simp at hx
      subst hx
      obtain ⟨u, hu, r⟩ := hp 0 y rfl
      rw [Addr.add_zero'] at hu
      refine ⟨u, ?_, r⟩
      simp only [loadVar, Sem.run_bind, hag, Result.andThen_ok, Bool.false_eq_true, if_false, run_load, hu]

theorem part_ok {t : TypeId} {ag : Option Nat} (ha : aggOf P t = some ag) {cs : List AV} {vs : Array Value} (hl : cs.length = vs.size)
    (hr : ∀ (i : Nat) (c : AV) (v : Value), cs[i]? = some c → vs[i]? = some v → Rep (Rd X φ w) φ c v) {off : Nat} {x : AV} (hx : rdc ag (cs.drop off) = some x) :
    ∃ v, (part t vs off).run P w = .ok v w ∧ Rep (Rd X φ w) φ x v := by
  cases ag with
  | some k =>
    obtain ⟨i, hi, hk, hag⟩ := aggOf_some (w := w) ha
    simp only [rdc] at hx
    split at hx
    · rename_i hle
      simp at hx
      subst hx
      rw [List.length_drop] at hle
      refine ⟨.agg (vs.extract off (off + k)), ?_, .agg _ _ _ ?_ fun j c v hc hv => ?_⟩
      · simp only [part, Sem.run_bind, hag, Result.andThen_ok, if_true, run_size hi, hk, Sem.run_pure]
      · simp only [List.length_take, List.length_drop, Array.size_extract]; omega
      · have hjk : j < k := by have := lt_of_getElem? hc; simp only [List.length_take] at this; omega
        rw [List.getElem?_take_of_lt hjk, List.getElem?_drop] at hc
        have hv' : vs[off + j]? = some v := by
          rw [Array.getElem?_extract] at hv
          split at hv
          · exact hv
          · cases hv
        exact hr _ c v hc hv'
    · cases hx
  | none =>
    have hag := aggOf_none (P := P) (w := w) ha
    simp only [rdc, List.head?_drop] at hx
    have hlt := lt_of_getElem? hx
    obtain ⟨v, hv⟩ := agetElem?_some_of (l := vs) (i := off) (by omega)
    exact ⟨v, by simp only [part, Sem.run_bind, hag, Result.andThen_ok, Bool.false_eq_true, if_false, hv, Sem.run_pure], hr off x v hx hv⟩

theorem rep_int {k : IntKind} {n : Int} {v : Value} (h : Rep (Rd X φ w) φ (.int k n) v) : v = .int k n := by cases h; rfl
theorem rep_bool {b : Bool} {v : Value} (h : Rep (Rd X φ w) φ (.bool b) v) : v = .bool b := by cases h; rfl

theorem run_bin {op : BinOp} {t : TypeId} {k k' : IntKind} {x y : Int} {r : AV} (h : binA op (.int k x) (.int k' y) = some r) :
    ∃ v, (binOp op t (.int k x) (.int k' y)).run P w = .ok v w ∧ ∀ R ψ, Rep R ψ r v := by
  cases op <;> simp only [binA, arith] at h
  case shl =>
    split at h
    · cases h
    · rename_i hn
      simp at h; subst h
      exact ⟨_, by simp [binOp, Op.shift, hn], fun _ _ => .int _ _ _⟩
  case shr =>
    split at h
    · cases h
    · rename_i hn
      simp at h; subst h
      exact ⟨_, by simp [binOp, Op.shift, hn], fun _ _ => .int _ _ _⟩
  all_goals
    split at h
    · rename_i hk
      subst hk
      first
        | (simp at h; subst h; first | exact ⟨_, by simp [go_sem], fun _ _ => .int _ _ _⟩ | exact ⟨_, by simp [go_sem], fun _ _ => .bool _ _⟩)
        | (split at h
           · cases h
           · rename_i hn
             simp at h; subst h
             exact ⟨_, by simp [go_sem, hn], fun _ _ => .int _ _ _⟩)
    · cases h

theorem eqc_int {l : List Bool} {xs ys : List AV} {e : Bool} (h : eqc (true :: l) xs ys = some e) :
    ∃ k a r b s e', xs = .int k a :: r ∧ ys = .int k b :: s ∧ eqc l r s = some e' ∧ e = (a == b && e') := by
  cases xs with
  | nil => simp [eqc] at h
  | cons x r =>
    cases ys with
    | nil => cases x <;> simp [eqc] at h
    | cons y s =>
      cases x <;> cases y <;> simp [eqc] at h
      rename_i k a k' b
      obtain ⟨rfl, h⟩ := h
      split at h
      · rename_i e' he
        simp at h
        exact ⟨k, a, r, b, s, e', rfl, rfl, he, h.symm⟩
      · cases h
theorem eqc_bool {l : List Bool} {xs ys : List AV} {e : Bool} (h : eqc (false :: l) xs ys = some e) :
    ∃ a r b s e', xs = .bool a :: r ∧ ys = .bool b :: s ∧ eqc l r s = some e' ∧ e = (a == b && e') := by
  cases xs with
  | nil => simp [eqc] at h
  | cons x r =>
    cases ys with
    | nil => cases x <;> simp [eqc] at h
    | cons y s =>
      cases x <;> cases y <;> simp [eqc] at h
      rename_i a b
      split at h
      · rename_i e' he
        simp at h
        exact ⟨a, r, b, s, e', rfl, rfl, he, h.symm⟩
      · cases h
theorem run_eqFields (d : Nat) : ∀ (fs : List Field) (l : List Bool) (off : Nat) (xs ys : List AV) (vx vy : Array Value) (e : Bool), eqFlds P off fs l = true → eqc l (xs.drop off) (ys.drop off) = some e →
    xs.length = vx.size → ys.length = vy.size → (∀ (i : Nat) (c : AV) (v : Value), xs[i]? = some c → vx[i]? = some v → Rep (Rd X φ w) φ c v) →
    (∀ (i : Nat) (c : AV) (v : Value), ys[i]? = some c → vy[i]? = some v → Rep (Rd X φ w) φ c v) → (Op.eqFields (d + 1) vx vy fs).run P w = .ok e w
  | [], [], off, xs, ys, vx, vy, e, _, he, _, _, _, _ => by
    generalize xs.drop off = a at he
    generalize ys.drop off = b at he
    cases a <;> cases b <;> simp [eqc] at he
    subst he
    rfl
  | [], _ :: _, _, _, _, _, _, _, h, _, _, _, _, _ => by simp [eqFlds] at h
  | _ :: _, [], _, _, _, _, _, _, h, _, _, _, _, _ => by simp [eqFlds] at h
  | f :: fs, b :: l, off, xs, ys, vx, vy, e, h, he, hlx, hly, hx, hy => by
    simp only [eqFlds, Bool.and_eq_true, decide_eq_true_eq] at h
    obtain ⟨⟨⟨hoff, hname⟩, hty⟩, hrest⟩ := h
    have ih := fun e he => run_eqFields d fs l (off + 1) xs ys vx vy e hrest he hlx hly hx hy
    have cell : ∀ (zs : List AV) (vz : Array Value) (z : AV) (r : List AV), zs.length = vz.size → zs.drop off = z :: r → (∃ v, vz[off]? = some v) ∧ zs[off]? = some z ∧ zs.drop (off + 1) = r := by
      intro zs vz z r hl hd
      have h0 : zs[off]? = some z := by
        have h := congrArg (·[0]?) hd
        simp only [List.getElem?_drop, List.getElem?_cons_zero, Nat.add_zero] at h
        exact h
      refine ⟨agetElem?_some_of (by have := lt_of_getElem? h0; omega), h0, ?_⟩
      rw [← List.tail_drop, hd]; rfl
    split at hty
    · rename_i k hu
      subst hty
      have hag : aggOf P f.type = some none := by simp [aggOf, hu]
      have hna := aggOf_none (P := P) (w := w) hag
      obtain ⟨kx, a, r, b', s, e', hdx, hdy, hee, rfl⟩ := eqc_int he
      obtain ⟨⟨vx0, hvx⟩, hx0, hx1⟩ := cell xs vx _ _ hlx hdx
      obtain ⟨⟨vy0, hvy⟩, hy0, hy1⟩ := cell ys vy _ _ hly hdy
      obtain rfl := rep_int (hx off _ vx0 hx0 hvx)
      obtain rfl := rep_int (hy off _ vy0 hy0 hvy)
      have ih' := ih e' (by rw [hx1, hy1]; exact hee)
      simp only [Op.eqFields, hname, ne_eq, not_false_eq_true, if_true, part, Sem.run_bind, hna, Result.andThen_ok, Bool.false_eq_true, if_false, hoff, hvx, hvy, Sem.run_pure, run_equalIn_int w d f.type kx k a b' hu]
      cases hab : (a == b') <;> simp [ih']
    · rename_i hu
      simp only [Bool.not_eq_true'] at hty
      subst hty
      have hag : aggOf P f.type = some none := by simp [aggOf, hu]
      have hna := aggOf_none (P := P) (w := w) hag
      obtain ⟨a, r, b', s, e', hdx, hdy, hee, rfl⟩ := eqc_bool he
      obtain ⟨⟨vx0, hvx⟩, hx0, hx1⟩ := cell xs vx _ _ hlx hdx
      obtain ⟨⟨vy0, hvy⟩, hy0, hy1⟩ := cell ys vy _ _ hly hdy
      obtain rfl := rep_bool (hx off _ vx0 hx0 hvx)
      obtain rfl := rep_bool (hy off _ vy0 hy0 hvy)
      have ih' := ih e' (by rw [hx1, hy1]; exact hee)
      simp only [Op.eqFields, hname, ne_eq, not_false_eq_true, if_true, part, Sem.run_bind, hna, Result.andThen_ok, Bool.false_eq_true, if_false, hoff, hvx, hvy, Sem.run_pure, run_equalIn_bool w d f.type a b' hu]
      cases hab : (a == b') <;> simp [ih']
    · cases hty
end
end Go.Am
