/- What one operation of the dump does: numbers, tests, slices, append. -/
import Derived.Test.YtnffadblmhadbaaAmF
set_option linter.unusedSimpArgs false
namespace Go.Am
section
variable {P : Program} {c : Cfg} {X : Nat → Prop} {φ : Phi} {w : World} {env : Env} {H : Heap} {a : Act} {o : Oper}

theorem ok_pick {x y z : Operand} {t : Bool} {u v : AV} (hop : o.op = .pick x y z) (hh : HRel X φ w H) (r : Rep (Rd X φ w) φ (.bool t) (a.eval x)) (ru : Rep (Rd X φ w) φ u (a.eval y)) (rv : Rep (Rd X φ w) φ v (a.eval z)) :
    Ok P X φ w o a (if t then u else v) H := by
  have hx := rep_bool r
  cases t
  · exact Ok.quiet (v' := a.eval z) (by simp [execOp, hop, hx, asBool]) (by simpa using rv) hh
  · exact Ok.quiet (v' := a.eval y) (by simp [execOp, hop, hx, asBool]) (by simpa using ru) hh
theorem ok_bin {op : BinOp} {t t' : TypeId} {x y : Operand} {u v r : AV} (hop : o.op = .binOp op t x y t') (hh : HRel X φ w H) (ru : Rep (Rd X φ w) φ u (a.eval x)) (rv : Rep (Rd X φ w) φ v (a.eval y)) (hr : binA op u v = some r) :
    Ok P X φ w o a r H := by
  have hr' := hr
  unfold binA at hr'
  split at hr'
  · rename_i k n k' n'
    have hx := rep_int ru
    have hy := rep_int rv
    obtain ⟨v', h1, h2⟩ := run_bin (P := P) (w := w) (t := t) hr
    exact Ok.quiet (v' := v') (by simp [execOp, hop, hx, hy, eqGuard_at_int, h1]) (h2 _ _) hh
  · cases hr'

theorem run_eq_nsl (d : Nat) {t e : TypeId} (h : P.underlying t = some (.slice e)) (x : Option Addr) (n m : Nat) : (Op.equalIn (d + 1) t (.slice x n m) (.slice none 0 0)).run P w = .ok x.isNone w := by
  cases x <;> simp [Op.equalIn, run_underlying h]
theorem run_eq_nptr (d : Nat) {t e : TypeId} (h : P.underlying t = some (.pointer e)) (x : Option Addr) : (Op.equalIn (d + 1) t (.pointer x) (.pointer none)).run P w = .ok x.isNone w := by
  cases x <;> simp [Op.equalIn, run_underlying h]
theorem run_eq_nfn (d : Nat) {t : TypeId} {ps rs : Array TypeId} {vr : Bool} (h : P.underlying t = some (.func ps rs vr)) (f : Fn) (x y : Array Value) : (Op.equalIn (d + 1) t (.func f x y) .nilFunc).run P w = .ok false w := by
  simp [Op.equalIn, run_underlying h]
theorem run_eq_nfn0 (d : Nat) {t : TypeId} {ps rs : Array TypeId} {vr : Bool} (h : P.underlying t = some (.func ps rs vr)) : (Op.equalIn (d + 1) t .nilFunc .nilFunc).run P w = .ok true w := by
  simp [Op.equalIn, run_underlying h]
/-- What a comparison finds, once 'equalIn' is known. -/
theorem run_eqn {op : BinOp} {ng : Bool} {t : TypeId} {x y : Operand} {u v : Value} {e : Bool} (ho : eqOp op ng = true) (hg : (eqGuard op t x y u v).run P w = .ok () w) (hb : ∀ op', binOp .eql t u v = (do pure (.bool (← Op.equal t u v))) ∧ (op' = BinOp.neq → binOp .neq t u v = (do pure (.bool (!(← Op.equal t u v))))))
    (h : (Op.equalIn 10000 t u v).run P w = .ok e w) : (do eqGuard op t x y u v; binOp op t u v).run P w = .ok (.bool (if ng then !e else e)) w := by
  have h' : (Op.equal t u v).run P w = .ok e w := by unfold Op.equal Op.maxDepth; exact h
  cases op <;> simp [eqOp] at ho
  · subst ho
    simp only [Sem.run_bind, hg, Result.andThen_ok, (hb .eql).1, h', Sem.run_pure]
    simp
  · subst ho
    simp only [Sem.run_bind, hg, Result.andThen_ok, (hb .neq).2 rfl, h', Sem.run_pure]
    simp
theorem ok_eq {op : BinOp} {ng : Bool} {et : Et} {t t' : TypeId} {x y : Operand} {u v : AV} {e : Bool} (hop : o.op = .binOp op t x y t') (hh : HRel X φ w H) (ho : eqOp op ng = true) (hc : chkEt P t et = true) (ru : Rep (Rd X φ w) φ u (a.eval x)) (rv : Rep (Rd X φ w) φ v (a.eval y)) (hr : eqA et u v = some e) :
    Ok P X φ w o a (.bool (if ng then !e else e)) H := by
  have fin : ∀ {p q : Value}, a.eval x = p → a.eval y = q → (eqGuard op t x y p q).run P w = .ok () w →
      (∀ op', binOp .eql t p q = (do pure (.bool (← Op.equal t p q))) ∧ (op' = BinOp.neq → binOp .neq t p q = (do pure (.bool (!(← Op.equal t p q)))))) → (Op.equalIn 10000 t p q).run P w = .ok e w →
      Ok P X φ w o a (.bool (if ng then !e else e)) H := by
    intro p q hp hq hg hb h
    have := run_eqn (x := x) (y := y) ho hg hb h
    refine Ok.quiet ?_ (.bool _ _) hh
    simp only [execOp, hop, hp, hq, Sem.run_bind, Result.andThen_ok, Sem.run_pure] at this ⊢
    rw [this]
    rfl
  unfold eqA at hr
  split at hr
  · rename_i b b'
    simp at hr
    subst hr
    have hx := rep_bool ru
    have hy := rep_bool rv
    simp only [chkEt] at hc
    split at hc
    · rename_i hu
      refine fin hx hy (by rw [eqGuard_at_bool]; rfl) (fun _ => ⟨by simp [binOp], fun _ => by simp [binOp]⟩) ?_
      exact run_equalIn_bool w 9999 t b b' hu
    · cases hc
  · rename_i l xs ys
    generalize hx : a.eval x = p at ru
    generalize hy : a.eval y = q at rv
    cases ru with
    | agg _ _ vx hlx hrx =>
      cases rv with
      | agg _ _ vy hly hry =>
        simp only [chkEt] at hc
        split at hc
        · rename_i fs hu
          simp only [Bool.and_eq_true, Bool.not_eq_true'] at hc
          obtain ⟨⟨hc1, hc2⟩, hc3⟩ := hc
          have hfo : P.fieldsOf t = fs := by simp [Program.fieldsOf, hu]
          refine fin hx hy (run_eqGuard_agg w op t x y vx vy hc2) (fun _ => ⟨by simp [binOp], fun _ => by simp [binOp]⟩) ?_
          rw [show (10000 : Nat) = 9999 + 1 from rfl, run_equalIn_struct w 9999 t vx vy (by rw [hu, hfo]) hc1, hfo]
          exact run_eqFields 9998 fs.toList l 0 xs ys vx vy e hc3 (by simpa using hr) hlx hly hrx hry
        · cases hc
  · generalize hy : a.eval y = q at rv
    cases rv
    simp only [chkEt] at hc
    split at hc
    · rename_i el hu
      have sl : ∀ {ad : Option Addr} {n m : Nat}, a.eval x = .slice ad n m → ad.isNone = e → Ok P X φ w o a (.bool (if ng then !e else e)) H := by
        intro ad n m hx he
        subst he
        exact fin hx hy (by rw [eqGuard_at_slice]; rfl) (fun _ => ⟨by simp [binOp], fun _ => by simp [binOp]⟩) (run_eq_nsl 9999 hu ad n m)
      generalize hx : a.eval x = p at ru
      cases ru <;> simp [isNil] at hr
      case nils => exact sl hx (by simpa using hr)
      case sl => exact sl hx (by simpa using hr)
      case lst xs _ _ _ _ _ _ _ _ _ =>
        cases xs <;> simp [isNil] at hr
        exact sl hx (by simpa using hr)
    · cases hc
  · generalize hy : a.eval y = q at rv
    cases rv
    simp only [chkEt] at hc
    split at hc
    · rename_i el hu
      have pt : ∀ {ad : Option Addr}, a.eval x = .pointer ad → ad.isNone = e → Ok P X φ w o a (.bool (if ng then !e else e)) H := by
        intro ad hx he
        subst he
        exact fin hx hy (by rw [eqGuard_at_pointer]; rfl) (fun _ => ⟨by cases ad <;> simp [binOp], fun _ => by cases ad <;> simp [binOp]⟩) (run_eq_nptr 9999 hu ad)
      generalize hx : a.eval x = p at ru
      cases ru <;> simp [isNil] at hr
      case nilp => exact pt hx (by simpa using hr)
      case ptr => exact pt hx (by simpa using hr)
      case fptr => exact pt hx (by simpa using hr)
    · cases hc
  · generalize hy : a.eval y = q at rv
    cases rv
    simp only [chkEt] at hc
    split at hc
    · rename_i ps rs vr hu
      generalize hx : a.eval x = p at ru
      cases ru <;> simp [isNil] at hr
      case nilf => subst hr; exact fin hx hy (by rw [eqGuard_at_nilFunc]; rfl) (fun _ => ⟨by simp [binOp], fun _ => by simp [binOp]⟩) (run_eq_nfn0 9999 hu)
      case func => subst hr; exact fin hx hy (by rw [eqGuard_at_func]; rfl) (fun _ => ⟨by simp [binOp], fun _ => by simp [binOp]⟩) (run_eq_nfn 9999 hu _ _ _)
    · cases hc
  · cases hr
theorem ok_un {op : UnOp} {t : TypeId} {x : Operand} {u r : AV} (hop : o.op = .unOp op t x) (hh : HRel X φ w H) (ru : Rep (Rd X φ w) φ u (a.eval x)) (hr : unA op u = some r) : Ok P X φ w o a r H := by
  unfold unA at hr
  split at hr
  · have hx := rep_int ru
    simp at hr; subst hr
    exact Ok.quiet (v' := .int _ _) (by simp [execOp, hop, hx, Op.unary, Op.intArith]) (.int _ _ _) hh
  · have hx := rep_int ru
    simp at hr; subst hr
    exact Ok.quiet (by simp [execOp, hop, hx, Op.unary, intBits_xor]) (.int _ _ _) hh
  · have hx := rep_bool ru
    simp at hr; subst hr
    exact Ok.quiet (by simp [execOp, hop, hx, Op.unary]) (.bool _ _) hh
  · cases hr
theorem ok_cvt {s d : TypeId} {x : Operand} {k k' : IntKind} {n : Int} (hop : o.op = .convert s d x) (hh : HRel X φ w H) (hs : (P.underlying s).isSome = true) (hd : P.underlying d = some (.int k)) (ru : Rep (Rd X φ w) φ (.int k' n) (a.eval x)) :
    Ok P X φ w o a (.int k (k.wrap n)) H := by
  have hx := rep_int ru
  obtain ⟨d', hd'⟩ := Option.isSome_iff_exists.mp hs
  exact Ok.quiet (by simp [execOp, hop, hx, convert, run_underlying hd', run_underlying hd, Conv.intToInt]) (.int _ _ _) hh
theorem ok_mkf {fn : Fn} {as bs : Array Operand} {xs ys : List E} (hop : o.op = .makeFunc fn as bs) (hh : HRel X φ w H) (he : ERel X φ w env a.tmps) (hg : GlOK c X φ w) (ha : chkEs as.toList xs = true) (hb : chkEs bs.toList ys = true) :
    Ok P X φ w o a (.func fn (evs c env xs) (evs c env ys)) H := by
  obtain ⟨l1, h1⟩ := evals_rep he hg ha
  obtain ⟨l2, h2⟩ := evals_rep he hg hb
  refine Ok.quiet (v' := .func fn (as.map a.eval) (bs.map a.eval)) (by simp [execOp, hop, Instr.makeFunc]) (.func _ _ _ _ _ _ (by simp [l1]) (by simp [l2]) (fun i c v hc hv => h1 i c v hc ?_) (fun i c v hc hv => h2 i c v hc ?_)) hh
  · simpa using hv
  · simpa using hv
theorem ok_mks {t : TypeId} {k : Nat} {zs : List AV} {x y : Operand} {k1 k2 : IntKind} {l cp : Int} (hop : o.op = .makeSlice t x y) (hh : HRel X φ w H) (hk : elemIs P t k = true) (hz : elemZero P t zs = true)
    (rx : Rep (Rd X φ w) φ (.int k1 l) (a.eval x)) (ry : Rep (Rd X φ w) φ (.int k2 cp) (a.eval y)) (h0 : 0 ≤ l) (h1 : l ≤ cp) (h2 : cp ≤ (LIM : Int)) :
    Ok P X φ w o a (.sl k H.length 0 l.toNat) (H ++ [some (rep zs l.toNat)]) := by
  obtain ⟨e, i, z, hu, hi, hik, hk0, hby, hiz, hzk⟩ := elemIs_spec hk
  simp only [elemZero, hu] at hz
  obtain ⟨i', z', hi', hz', hcs, _⟩ := zeroIs_cs (X := X) (φ := φ) (w := w) hz
  rw [hi] at hi'
  simp at hi'
  subst hi'
  rw [hiz] at hz'
  simp at hz'
  subst hz'
  have hzl : zs.length = k := by have := hcs.1; simp at this; omega
  have hx := rep_int rx
  have hy := rep_int ry
  have hL : (LIM : Int) = 4294967296 := rfl
  have hb : (i.bytes : Int) * cp ≤ 281474976710656 := by
    have h3 : (i.bytes : Int) * cp ≤ 1024 * 4294967296 := Int.mul_le_mul (by omega) (by omega) (by omega) (by omega)
    omega
  have hrun := run_make (P := P) w t e i z hu hi hiz k1 k2 l cp h0 h1 hb (by omega)
  have hlc : l.toNat ≤ cp.toNat := by omega
  have hlk : l.toNat * k ≤ cp.toNat * k := Nat.mul_le_mul_right _ hlc
  have hms : (madeCells z.cells (cp.toNat * i.size)).size = cp.toNat * k := by rw [size_madeCells, hik]
  obtain ⟨q1, q2⟩ := alloc_ok hh (w1 := w) (arr := madeCells z.cells (cp.toNat * i.size)) (e := e) (cs := rep zs l.toNat) rfl rfl rfl rfl (by rw [rep_length, hms, hzl]; exact hlk)
    (rep_cs hcs (m := cp.toNat * k) (by rw [hzk]; exact hlk) hms (fun j hj => by rw [hik]; simp [madeCells, hj]))
  refine Ok.value (v' := .slice (some ⟨w.heap.size, 0, none⟩) l.toNat cp.toNat) ?_ (new_sl hh.len hlc (by rw [hms]; exact Nat.le_refl _)) q1 q2
  simp only [execOp, hop, hx, hy, Sem.run_bind, hrun, Result.andThen_ok, Sem.run_pure]

theorem bnd_spec {x : AV} {hi n : Nat} (h : bnd x hi = some n) : ∃ k i, x = .int k i ∧ 0 ≤ i ∧ i ≤ (hi : Int) ∧ n = i.toNat := by
  unfold bnd at h
  split at h
  · rename_i k i
    split at h
    · rename_i hc; simp at h; exact ⟨k, i, rfl, hc.1, hc.2, h.symm⟩
    · cases h
  · cases h
theorem idx_spec {x : AV} {len j : Nat} (h : idx x len = some j) : ∃ k i, x = .int k i ∧ 0 ≤ i ∧ i < (len : Int) ∧ j = i.toNat ∧ j < len := by
  unfold idx at h
  split at h
  · rename_i k i
    split at h
    · rename_i hc; simp at h; exact ⟨k, i, rfl, hc.1, hc.2, h.symm, by omega⟩
    · cases h
  · cases h
theorem run_sliceBound {k : IntKind} {i : Int} {y : Nat} {cd : BoundsCode} (h0 : 0 ≤ i) (h1 : i ≤ (y : Int)) : (Instr.sliceBound (.int k i) y cd).run P w = .ok i.toNat w := by
  simp [Instr.sliceBound, asIntOf, h0, h1]
/-- The bounds of a slice expression. -/
theorem run_bnd1 (he : ERel X φ w env a.tmps) (hg : GlOK c X φ w) {x : Operand} {y : E} {n m cap : Nat} {cd : BoundsCode} (hx : chkE x y = true) (hn : n ≤ cap) (h : bnd (ev c env y) n = some m) :
    (Instr.sliceBound (a.eval x) cap cd).run P w = .ok m w ∧ m ≤ n := by
  obtain ⟨k, i, e1, e2, e3, e4⟩ := bnd_spec h
  have r := eval_rep (a := a) he hg hx
  rw [e1] at r
  rw [rep_int r, e4]
  exact ⟨run_sliceBound e2 (by omega), by omega⟩
theorem run_bounds (he : ERel X φ w env a.tmps) (hg : GlOK c X φ w) {lo hi : Option Operand} {lo' hi' : Option E} {n cap h l : Nat} (hlo : chkEo lo lo' = true) (hhi : chkEo hi hi' = true) (hn : n ≤ cap)
    (hh : bndO c env n n hi' = some h) (hl : bndO c env 0 h lo' = some l) : (Instr.sliceBounds true n cap (lo.map a.eval) (hi.map a.eval) none).run P w = .ok (l, h, cap) w ∧ l ≤ h ∧ h ≤ n := by
  cases lo <;> cases lo' <;> simp only [chkEo] at hlo <;> try (cases hlo; done)
  all_goals
    cases hi <;> cases hi' <;> simp only [chkEo] at hhi <;> try (cases hhi; done)
  all_goals simp only [bndO] at hh hl
  · simp at hh hl
    subst hh; subst hl
    exact ⟨by simp [Instr.sliceBounds], by omega, Nat.le_refl _⟩
  · obtain ⟨h1, h2⟩ := run_bnd1 (P := P) (cd := .sliceAcap) he hg hhi hn hh
    simp at hl
    subst hl
    exact ⟨by simp [Instr.sliceBounds, h1], by omega, h2⟩
  · simp at hh
    subst hh
    obtain ⟨h1, h2⟩ := run_bnd1 (P := P) (cd := .sliceB) he hg hlo (Nat.le_refl _) hl
    exact ⟨by simp [Instr.sliceBounds, h1], h2, Nat.le_refl _⟩
  · obtain ⟨h1, h2⟩ := run_bnd1 (P := P) (cd := .sliceAcap) he hg hhi hn hh
    obtain ⟨h3, h4⟩ := run_bnd1 (P := P) (cd := .sliceB) he hg hlo (Nat.le_refl _) hl
    exact ⟨by simp [Instr.sliceBounds, h1, h3], h4, h2⟩
theorem run_slc {t e : TypeId} {i : TypeInfo} (hu : P.underlying t = some (.slice e)) (hi : P.info? e = some i) {ad : Option Addr} {n cap l h : Nat} {lo hi' : Option Value} (hb : (Instr.sliceBounds true n cap lo hi' none).run P w = .ok (l, h, cap) w) :
    (Instr.sliceAt t (.slice ad n cap) lo hi' none).run P w = .ok (.slice (if cap = l then ad else ad.map (·.add (l * i.size))) (h - l) (cap - l)) w := by
  simp only [Instr.sliceAt, Instr.slice, Sem.run_bind, run_underlying hu, Result.andThen_ok, hb, run_size hi, Sem.run_pure]
theorem ok_slc {t : TypeId} {k : Nat} {x : Operand} {y : E} {lo hi : Option Operand} {lo' hi' : Option E} {v : AV} {H' : Heap} {fl : Fp} {call : Nat → List AV → Heap → Option (AV × Heap)} (hop : o.op = .slice t x lo hi none) (hh : HRel X φ w H) (he : ERel X φ w env a.tmps) (hg : GlOK c X φ w)
    (hk : elemIs P t k = true) (hx : chkE x y = true) (hlo : chkEo lo lo' = true) (hhi : chkEo hi hi' = true) (hs : aOp c call env H (.slc k y lo' hi') = some (v, H', fl)) : Ok P X φ w o a v H' := by
  obtain ⟨e, i, z, hu, hinf, hik, hk0, hby, hiz, hzk⟩ := elemIs_spec hk
  have r := eval_rep (a := a) he hg hx
  simp only [aOp] at hs
  split at hs
  case h_2 => cases hs
  rename_i n hn
  split at hs
  case h_2 => cases hs
  rename_i h hhv
  split at hs
  case h_2 => cases hs
  rename_i l hlv
  have fin : ∀ {ad : Option Addr} {cap : Nat}, a.eval x = .slice ad n cap → n ≤ cap → l ≤ h → h ≤ n → (l ≤ h → h ≤ n → Rep (Rd X φ w) φ v (.slice (if cap = l then ad else ad.map (·.add (l * k))) (h - l) (cap - l))) → H' = H → Ok P X φ w o a v H' := by
    intro ad cap hax hnc _ _ hr hH
    obtain ⟨h1, h2, h3⟩ := run_bounds (P := P) he hg hlo hhi hnc hhv hlv
    have := run_slc (P := P) hu hinf (ad := ad) h1
    rw [hik] at this
    subst hH
    exact Ok.quiet (by simp only [execOp, hop, hax, Option.map_none, Sem.run_bind, this, Result.andThen_ok, Sem.run_pure]) (hr h2 h3) hh
  have le : ∀ cap, n ≤ cap → l ≤ h ∧ h ≤ n := fun cap hc => (run_bounds (P := P) he hg hlo hhi hc hhv hlv).2
  obtain ⟨hlh, hhn⟩ := le n (Nat.le_refl _)
  generalize hy : ev c env y = yv at hs r hn
  cases yv <;> simp only [lenA, Option.some.injEq] at hn <;> try (cases hn; done)
  · subst hn
    simp at hs
    obtain ⟨rfl, rfl, rfl⟩ := hs
    generalize hax : a.eval x = ax at r
    cases r
    have hh0 : h = 0 := by omega
    have hl0 : l = 0 := by omega
    subst hh0; subst hl0
    exact fin hax (Nat.le_refl _) (Nat.le_refl _) (Nat.le_refl _) (fun _ _ => by simp; exact .nils _) rfl
  · rename_i k' xs
    simp only at hs
    split at hs
    case isFalse => cases hs
    rename_i hkk
    subst hkk
    simp at hs
    obtain ⟨rfl, rfl, rfl⟩ := hs
    generalize hax : a.eval x = ax at r
    cases r with
    | lst _ _ _ ad n' cap u hn' hcap hkc hur hr =>
      subst hn
      subst hn'
      refine fin hax hcap hlh hhn (fun _ _ => ?_) rfl
      have hlen : ((xs.take h).drop l).length = h - l := by simp; omega
      by_cases hcl : cap = l
      · have h0 : (xs.take h).drop l = [] := List.eq_nil_of_length_eq_zero (by omega)
        rw [if_pos hcl, h0]
        refine .lst _ _ _ _ _ _ u (by simp; omega) (by omega) (by simp) (fun i j x c hx => by simp at hx) (fun i j x c hx => by simp at hx)
      · rw [if_neg hcl]
        have get : ∀ (i : Nat) (x : AV), ((xs.take h).drop l)[i]? = some x → xs[l + i]? = some x := by
          intro i x hx
          rw [List.getElem?_drop, List.getElem?_take] at hx
          split at hx
          · exact hx
          · cases hx
        refine .lst _ _ _ _ _ _ (fun i j => u (l + i) j) hlen.symm (by omega) (fun x hx => ?_) (fun i j x c hx hc => ?_) (fun i j x c hx hc => hr (l + i) j x c (get i x hx) hc)
        · obtain ⟨i, hi⟩ := List.getElem?_of_mem hx
          exact hkc x (List.mem_of_getElem? (get i x hi))
        · have := hur (l + i) j x c (get i x hx) hc
          rw [Addr.add_add]
          rwa [show l * k' + (i * k' + j) = (l + i) * k' + j by rw [Nat.add_mul]; omega]
    | lst0 =>
      simp at hn
      subst hn
      have hh0 : h = 0 := by omega
      have hl0 : l = 0 := by omega
      subst hh0; subst hl0
      exact fin hax (Nat.le_refl _) (Nat.le_refl _) (Nat.le_refl _) (fun _ _ => by simp; exact .lst0 _ _) rfl
  · rename_i k' b off len
    simp only at hs
    split at hs
    case isFalse => cases hs
    rename_i hkk
    subst hkk
    simp at hs
    obtain ⟨rfl, rfl, rfl⟩ := hs
    subst hn
    generalize hax : a.eval x = ax at r
    cases r with
    | sl _ _ _ _ _ ad cap hb hc hp =>
      refine fin hax hc hlh hhn (fun _ _ => ?_) rfl
      have e : (if cap = l then (some ad : Option Addr) else Option.map (·.add (l * k')) (some ad)) = some (if cap = l then ad else ad.add (l * k')) := by split <;> simp
      rw [e]
      refine .sl _ _ _ _ _ _ _ hb (by omega) fun g sz hg => ?_
      obtain ⟨h1, h2⟩ := hp g sz hg
      have hmul : l * k' + (cap - l) * k' = cap * k' := by rw [← Nat.add_mul]; congr 1; omega
      refine ⟨fun h0 => ?_, by omega⟩
      rw [if_neg (by omega), h1 (by omega), Addr.add_none]

theorem Plc.drop {cs : List AV} {ad : Addr} (h : Plc X φ w cs ad) (n : Nat) : Plc X φ w (cs.drop n) (ad.add n) := by
  intro j x hx
  rw [List.getElem?_drop] at hx
  rw [Addr.add_add]
  exact h _ _ hx
theorem fptr_drop {cs : List AV} {v : Value} (h : Rep (Rd X φ w) φ (.fptr cs) v) (n : Nat) : ∃ ad, v = .pointer (some ad) ∧ Rep (Rd X φ w) φ (.fptr (cs.drop n)) (.pointer (some (ad.add n))) := by
  cases h with
  | fptr _ _ ad u hu h =>
    refine ⟨ad, rfl, .fptr _ _ _ (fun j => u (n + j)) (fun j c hc => ?_) (fun j c hc => ?_)⟩
    · rw [List.getElem?_drop] at hc
      rw [Addr.add_add]
      exact hu _ _ hc
    · rw [List.getElem?_drop] at hc
      exact h _ _ hc
theorem ptr_add {b off : Nat} {v : Value} (h : Rep (Rd X φ w) φ (.ptr b off) v) (n : Nat) : ∃ ad, v = .pointer (some ad) ∧ Rep (Rd X φ w) φ (.ptr b (off + n)) (.pointer (some (ad.add n))) := by
  cases h with
  | ptr _ _ _ ad hb h =>
    refine ⟨ad, rfl, .ptr _ _ _ _ hb fun g sz hg => ?_⟩
    rw [h g sz hg, Addr.add_none]

theorem ok_fad {s : TypeId} {f off : Nat} {x : Operand} {y : E} {v : AV} {H' : Heap} {fl : Fp} {call : Nat → List AV → Heap → Option (AV × Heap)} (hop : o.op = .fieldAddr s x f) (hh : HRel X φ w H) (r : Rep (Rd X φ w) φ (ev c env y) (a.eval x))
    (hk : (match P.underlying s with
    | some (.struct fs) => match fs[f]? with
      | some fd => decide (fd.offset = off) && (match P.info? fd.type with
        | some i => decide (i.size ≠ 0)
        | none => false)
      | none => false
    | _ => false) = true) (hs : aOp c call env H (.fad off y) = some (v, H', fl)) : Ok P X φ w o a v H' := by
  split at hk
  case h_2 => cases hk
  rename_i fs hu
  split at hk
  case h_2 => cases hk
  rename_i fd hf
  simp only [Bool.and_eq_true, decide_eq_true_eq] at hk
  obtain ⟨hoff, hsz⟩ := hk
  split at hsz
  case h_2 => cases hsz
  rename_i i hi
  have hsz' : ¬ i.size = 0 := by simpa using hsz
  have run : ∀ {ad : Addr}, a.eval x = .pointer (some ad) → (execOp a.eval o).run P w = .ok (.value (.pointer (some (ad.add off)))) w := by
    intro ad hx
    simp only [execOp, hop, hx, Instr.fieldAt, Sem.run_bind, run_underlying hu, Result.andThen_ok, hf, Instr.sureAddr, Sem.run_pure, fieldPlace, run_size hi, hsz', if_false, hoff]
  simp only [aOp] at hs
  split at hs
  · rename_i b off' hy
    simp at hs
    obtain ⟨rfl, rfl, rfl⟩ := hs
    rw [hy] at r
    obtain ⟨ad, h1, h2⟩ := ptr_add r off
    exact Ok.quiet (run h1) h2 hh
  · rename_i cs hy
    simp at hs
    obtain ⟨rfl, rfl, rfl⟩ := hs
    rw [hy] at r
    obtain ⟨ad, h1, h2⟩ := fptr_drop r off
    exact Ok.quiet (run h1) h2 hh
  · cases hs
theorem ok_fld {s : TypeId} {f off : Nat} {ag : Option Nat} {x : Operand} {y : E} {v : AV} {H' : Heap} {fl : Fp} {call : Nat → List AV → Heap → Option (AV × Heap)} (hop : o.op = .field s x f) (hh : HRel X φ w H) (r : Rep (Rd X φ w) φ (ev c env y) (a.eval x))
    (hk : (match P.underlying s with
    | some (.struct fs) => match fs[f]? with
      | some fd => decide (fd.offset = off) && decide (aggOf P fd.type = some ag)
      | none => false
    | _ => false) = true) (hs : aOp c call env H (.fld off ag y) = some (v, H', fl)) : Ok P X φ w o a v H' := by
  split at hk
  case h_2 => cases hk
  rename_i fs hu
  split at hk
  case h_2 => cases hk
  rename_i fd hf
  simp only [Bool.and_eq_true, decide_eq_true_eq] at hk
  obtain ⟨hoff, hag⟩ := hk
  simp only [aOp] at hs
  split at hs
  case h_2 => cases hs
  rename_i cs hy
  split at hs
  case h_2 => cases hs
  rename_i u hu'
  simp at hs
  obtain ⟨rfl, rfl, rfl⟩ := hs
  rw [hy] at r
  generalize hx : a.eval x = ax at r
  cases r with
  | agg _ _ vs hl hr =>
    obtain ⟨v', h1, h2⟩ := part_ok hag hl hr hu'
    refine Ok.quiet ?_ h2 hh
    simp only [execOp, hop, hx, Instr.field, Sem.run_bind, run_underlying hu, Result.andThen_ok, hf, asAgg, Sem.run_pure, hoff, h1]
theorem run_ixa {t e : TypeId} {i : TypeInfo} (hu : P.underlying t = some (.slice e)) (hi : P.info? e = some i) {ad : Addr} {n cap : Nat} {k : IntKind} {j : Int} (h0 : 0 ≤ j) (h1 : j < (n : Int)) :
    (Instr.indexAt t (.slice (some ad) n cap) (.int k j)).run P w = .ok (.pointer (some (ad.add (j.toNat * i.size)))) w := by
  simp [Instr.indexAt, asIntOf, run_underlying hu, h0, h1, run_size hi]
theorem run_ixp {t e : TypeId} {i : TypeInfo} {n : Nat} (hu : P.underlying t = some (.array n e)) (hi : P.info? e = some i) {ad : Addr} {k : IntKind} {j : Int} (h0 : 0 ≤ j) (h1 : j < (n : Int)) :
    (Instr.indexAt t (.pointer (some ad)) (.int k j)).run P w = .ok (.pointer (some (ad.add (j.toNat * i.size)))) w := by
  simp [Instr.indexAt, asIntOf, Instr.sureAddr, run_underlying hu, h0, h1, run_size hi]
theorem ok_ixa {t : TypeId} {k : Nat} {x xi : Operand} {y yi : E} {v : AV} {H' : Heap} {fl : Fp} {call : Nat → List AV → Heap → Option (AV × Heap)} (hop : o.op = .indexAddr t x xi) (hh : HRel X φ w H) (r : Rep (Rd X φ w) φ (ev c env y) (a.eval x))
    (ri : Rep (Rd X φ w) φ (ev c env yi) (a.eval xi)) (hk : elemIs P t k = true) (hs : aOp c call env H (.ixa k y yi) = some (v, H', fl)) : Ok P X φ w o a v H' := by
  obtain ⟨e, i, z, hu, hinf, hik, hk0, hby, hiz, hzk⟩ := elemIs_spec hk
  simp only [aOp] at hs
  split at hs
  · rename_i k' xs hy
    split at hs
    case h_2 => cases hs
    rename_i j hj
    obtain ⟨kk, ii, e1, e2, e3, e4, e5⟩ := idx_spec hj
    split at hs
    case isFalse => cases hs
    rename_i hkk
    subst hkk
    split at hs
    case h_2 => cases hs
    rename_i el hel
    simp at hs
    obtain ⟨rfl, rfl, rfl⟩ := hs
    rw [e1] at ri
    have hxi := rep_int ri
    rw [hy] at r
    generalize hx : a.eval x = ax at r
    cases r with
    | lst _ _ _ ad n cap u hn hcap hkc hur hr =>
      have hrun := run_ixa (P := P) (w := w) hu hinf (ad := ad) (n := n) (cap := cap) (k := kk) e2 (by omega)
      refine Ok.quiet (v' := .pointer (some (ad.add (ii.toNat * i.size)))) (by simp only [execOp, hop, hx, hxi, Sem.run_bind, hrun, Result.andThen_ok, Sem.run_pure]) (.fptr _ _ _ (fun m => u j m) (fun m c hc => ?_) (fun m c hc => hr j m el c hel hc)) hh
      rw [Addr.add_add, hik, ← e4]
      exact hur j m el c hel hc
    | lst0 => simp at hel
  · rename_i k' b off len hy
    split at hs
    case h_2 => cases hs
    rename_i j hj
    obtain ⟨kk, ii, e1, e2, e3, e4, e5⟩ := idx_spec hj
    split at hs
    case isFalse => cases hs
    rename_i hkk
    subst hkk
    simp at hs
    obtain ⟨rfl, rfl, rfl⟩ := hs
    rw [e1] at ri
    have hxi := rep_int ri
    rw [hy] at r
    generalize hx : a.eval x = ax at r
    cases r with
    | sl _ _ _ _ _ ad cap hb hc hp =>
      have hrun := run_ixa (P := P) (w := w) hu hinf (ad := ad) (n := len) (cap := cap) (k := kk) e2 (by omega)
      refine Ok.quiet (v' := .pointer (some (ad.add (ii.toNat * i.size)))) (by simp only [execOp, hop, hx, hxi, Sem.run_bind, hrun, Result.andThen_ok, Sem.run_pure]) (.ptr _ _ _ _ hb fun g sz hg => ?_) hh
      rw [(hp g sz hg).1 (by omega), Addr.add_none, hik, e4]
  · cases hs
theorem ok_ixp {t : TypeId} {n k : Nat} {x xi : Operand} {y yi : E} {v : AV} {H' : Heap} {fl : Fp} {call : Nat → List AV → Heap → Option (AV × Heap)} (hop : o.op = .indexAddr t x xi) (hh : HRel X φ w H) (r : Rep (Rd X φ w) φ (ev c env y) (a.eval x))
    (ri : Rep (Rd X φ w) φ (ev c env yi) (a.eval xi)) (hk : (match P.underlying t with
    | some (.array n' e) => decide (n = n') && sizeIs P e k
    | _ => false) = true) (hs : aOp c call env H (.ixp n k y yi) = some (v, H', fl)) : Ok P X φ w o a v H' := by
  split at hk
  case h_2 => cases hk
  rename_i n' e hu
  simp only [Bool.and_eq_true, decide_eq_true_eq] at hk
  obtain ⟨rfl, hsz⟩ := hk
  unfold sizeIs at hsz
  split at hsz
  case h_2 => cases hsz
  rename_i i hi
  have hik : i.size = k := by simpa using hsz
  simp only [aOp] at hs
  split at hs
  case h_2 => cases hs
  rename_i j hj
  obtain ⟨kk, ii, e1, e2, e3, e4, e5⟩ := idx_spec hj
  rw [e1] at ri
  have hxi := rep_int ri
  have run : ∀ {ad : Addr}, a.eval x = .pointer (some ad) → (execOp a.eval o).run P w = .ok (.value (.pointer (some (ad.add (j * k))))) w := by
    intro ad hx
    have hrun := run_ixp (P := P) (w := w) hu hi (ad := ad) (k := kk) e2 e3
    simp only [execOp, hop, hx, hxi, Sem.run_bind, hrun, Result.andThen_ok, Sem.run_pure, hik, e4]
  split at hs
  · rename_i b off hy
    simp at hs
    obtain ⟨rfl, rfl, rfl⟩ := hs
    rw [hy] at r
    obtain ⟨ad, h1, h2⟩ := ptr_add r (j * k)
    exact Ok.quiet (run h1) h2 hh
  · rename_i cs hy
    simp at hs
    obtain ⟨rfl, rfl, rfl⟩ := hs
    rw [hy] at r
    obtain ⟨ad, h1, h2⟩ := fptr_drop r (j * k)
    exact Ok.quiet (run h1) h2 hh
  · cases hs
theorem ok_ix {t : TypeId} {n k : Nat} {ag : Option Nat} {x xi : Operand} {y yi : E} {v : AV} {H' : Heap} {fl : Fp} {call : Nat → List AV → Heap → Option (AV × Heap)} (hop : o.op = .index t x xi) (hh : HRel X φ w H) (r : Rep (Rd X φ w) φ (ev c env y) (a.eval x))
    (ri : Rep (Rd X φ w) φ (ev c env yi) (a.eval xi)) (hk : (match P.underlying t with
    | some (.array n' e) => decide (n = n') && sizeIs P e k && decide (aggOf P e = some ag)
    | _ => false) = true) (hs : aOp c call env H (.ix n k ag y yi) = some (v, H', fl)) : Ok P X φ w o a v H' := by
  split at hk
  case h_2 => cases hk
  rename_i n' e hu
  simp only [Bool.and_eq_true, decide_eq_true_eq] at hk
  obtain ⟨⟨rfl, hsz⟩, hag⟩ := hk
  unfold sizeIs at hsz
  split at hsz
  case h_2 => cases hsz
  rename_i i hi
  have hik : i.size = k := by simpa using hsz
  simp only [aOp] at hs
  split at hs
  case h_2 => cases hs
  rename_i j hj
  obtain ⟨kk, ii, e1, e2, e3, e4, e5⟩ := idx_spec hj
  rw [e1] at ri
  have hxi := rep_int ri
  split at hs
  case h_2 => cases hs
  rename_i cs hy
  split at hs
  case h_2 => cases hs
  rename_i u hu'
  simp at hs
  obtain ⟨rfl, rfl, rfl⟩ := hs
  rw [hy] at r
  generalize hx : a.eval x = ax at r
  cases r with
  | agg _ _ vs hl hr =>
    obtain ⟨v', h1, h2⟩ := part_ok hag hl hr hu'
    refine Ok.quiet ?_ h2 hh
    rw [e4] at h1
    simp only [execOp, hop, hx, hxi, Instr.index, asIntOf, Sem.run_bind, Sem.run_pure, run_underlying hu, Result.andThen_ok, e2, e3, and_self, if_true, run_size hi, hik, h1]
theorem ok_ext {x : Operand} {i : Nat} {vs : List AV} {v : AV} (hop : o.op = .extract x i) (hh : HRel X φ w H) (r : Rep (Rd X φ w) φ (.tup vs) (a.eval x)) (hv : vs[i]? = some v) : Ok P X φ w o a v H := by
  generalize hx : a.eval x = ax at r
  cases r with
  | tup _ _ us hl hr =>
    obtain ⟨u, hu⟩ := agetElem?_some_of (l := us) (i := i) (by have := lt_of_getElem? hv; omega)
    exact Ok.quiet (by simp only [execOp, hop, hx, Instr.extract, hu, Sem.run_bind, Sem.run_pure, Result.andThen_ok]) (hr i v u hv hu) hh
theorem ok_nilck {x : Operand} {y : E} {v : AV} {H' : Heap} {fl : Fp} {call : Nat → List AV → Heap → Option (AV × Heap)} (hop : o.op = .nilCheck x) (hh : HRel X φ w H) (r : Rep (Rd X φ w) φ (ev c env y) (a.eval x))
    (hs : aOp c call env H (.nilck y) = some (v, H', fl)) : Ok P X φ w o a v H' := by
  simp only [aOp] at hs
  split at hs
  · rename_i b off hy
    simp at hs
    obtain ⟨rfl, rfl, rfl⟩ := hs
    rw [hy] at r
    generalize hx : a.eval x = ax at r
    have r' := r
    cases r
    exact Ok.quiet (by simp only [execOp, hop, hx, Sem.run_pure]) r' hh
  · rename_i cs hy
    simp at hs
    obtain ⟨rfl, rfl, rfl⟩ := hs
    rw [hy] at r
    generalize hx : a.eval x = ax at r
    have r' := r
    cases r
    exact Ok.quiet (by simp only [execOp, hop, hx, Sem.run_pure]) r' hh
  · rename_i f as bs hy
    simp at hs
    obtain ⟨rfl, rfl, rfl⟩ := hs
    rw [hy] at r
    generalize hx : a.eval x = ax at r
    have r' := r
    cases r
    exact Ok.quiet (by simp only [execOp, hop, hx, Sem.run_pure]) r' hh
  · cases hs
theorem ok_len {ca : Call} {x : Operand} {t : TypeId} {y : E} {v : AV} {H' : Heap} {fl : Fp} {call : Nat → List AV → Heap → Option (AV × Heap)} (hop : o.op = .call ca) (hca : ca.callee = .builtin .len) (hargs : ca.args = #[x]) (hty : ca.argTypes = #[t]) (hh : HRel X φ w H)
    (r : Rep (Rd X φ w) φ (ev c env y) (a.eval x)) (hsl : isSlice P t = true) (hs : aOp c call env H (.len y) = some (v, H', fl)) : Ok P X φ w o a v H' := by
  unfold isSlice at hsl
  split at hsl
  case h_2 => cases hsl
  rename_i e hu
  have run : ∀ {ad : Option Addr} {n cap : Nat}, a.eval x = .slice ad n cap → (execOp a.eval o).run P w = .ok (.value (.int .i64 n)) w := by
    intro ad n cap hx
    simp [execOp, hop, resolve, hca, hargs, hty, invoke, builtin, hx, Builtin.len_, run_underlying hu, goInt]
  simp only [aOp] at hs
  split at hs
  case h_2 => cases hs
  rename_i n hn
  simp at hs
  obtain ⟨rfl, rfl, rfl⟩ := hs
  generalize hy : ev c env y = yv at r hn
  generalize hx : a.eval x = ax at r
  cases yv <;> simp only [lenA, Option.some.injEq] at hn <;> try (cases hn; done)
  · subst hn
    cases r
    exact Ok.quiet (run hx) (.int _ _ _) hh
  · cases r with
    | lst _ _ _ ad m cap u hm =>
      subst hm; subst hn
      exact Ok.quiet (run hx) (.int _ _ _) hh
    | lst0 => simp at hn; subst hn; exact Ok.quiet (run hx) (.int _ _ _) hh
  · subst hn
    cases r
    exact Ok.quiet (run hx) (.int _ _ _) hh
theorem run_minF (mx : Bool) : ∀ (xs : List AV) (vs : List Value) (k : IntKind) (n : Int) (r : AV), minF mx (.int k n) xs = some r → xs.length = vs.length → (∀ (i : Nat) (c : AV) (v : Value), xs[i]? = some c → vs[i]? = some v → Rep (Rd X φ w) φ c v) →
    ∃ v, (vs.foldlM (if mx then Builtin.max2 else Builtin.min2) (.int k n)).run P w = .ok v w ∧ ∀ R ψ, Rep R ψ r v
  | [], [], k, n, r, h, _, _ => by simp [minF] at h; subst h; exact ⟨_, rfl, fun _ _ => .int _ _ _⟩
  | [], _ :: _, _, _, _, _, hl, _ => by simp at hl
  | _ :: _, [], _, _, _, _, hl, _ => by simp at hl
  | x :: xs, v :: vs, k, n, r, h, hl, hr => by
    cases x <;> simp only [minF] at h <;> try (cases h; done)
    rename_i k' m
    obtain rfl := rep_int (hr 0 _ v rfl rfl)
    obtain ⟨v', h1, h2⟩ := run_minF mx xs vs k _ r h (by simpa using hl) (fun i c u hc hu => hr (i + 1) c u (by simpa using hc) (by simpa using hu))
    refine ⟨v', ?_, h2⟩
    cases mx
    · simp only [Bool.false_eq_true, if_false] at h1 ⊢
      simp only [List.foldlM_cons, Builtin.min2, Sem.run_bind, Sem.run_pure, Result.andThen_ok]
      exact h1
    · simp only [if_true] at h1 ⊢
      simp only [List.foldlM_cons, Builtin.max2, Sem.run_bind, Sem.run_pure, Result.andThen_ok]
      exact h1
theorem ok_min {mx : Bool} {ca : Call} {ys : List E} {v : AV} (hop : o.op = .call ca) (hca : ca.callee = .builtin (if mx then .max else .min)) (hh : HRel X φ w H) (he : ERel X φ w env a.tmps) (hg : GlOK c X φ w)
    (hargs : chkEs ca.args.toList ys = true) (hm : minA mx (evs c env ys) = some v) : Ok P X φ w o a v H := by
  obtain ⟨hl, hr⟩ := evals_rep he hg hargs
  generalize hxs : evs c env ys = xs at hm hl hr
  have hvs : (ca.args.map a.eval).toList = ca.args.toList.map a.eval := by simp
  cases xs with
  | nil => simp [minA] at hm
  | cons x xs =>
    cases x <;> simp only [minA] at hm <;> try (cases hm; done)
    rename_i k n
    cases hav : ca.args.toList.map a.eval with
    | nil => have := congrArg List.length hav; simp at this hl; rw [this] at hl; simp at hl
    | cons u us =>
      rw [hav] at hr
      obtain rfl := rep_int (hr 0 _ u rfl rfl)
      obtain ⟨v', h1, h2⟩ := run_minF (P := P) mx xs us k n v hm (by have := congrArg List.length hav; simp at this hl; omega) (fun i c w' hc hw => hr (i + 1) c w' (by simpa using hc) (by simpa using hw))
      refine Ok.quiet (v' := v') ?_ (h2 _ _) hh
      cases mx
      · simp only [Bool.false_eq_true, if_false] at h1 hca
        simp only [execOp, hop, resolve, hca, invoke, builtin, Builtin.min_, hvs, hav, Sem.run_bind, Sem.run_pure, Result.andThen_ok, h1]
      · simp only [if_true] at h1 hca
        simp only [execOp, hop, resolve, hca, invoke, builtin, Builtin.max_, hvs, hav, Sem.run_bind, Sem.run_pure, Result.andThen_ok, h1]
theorem ok_ixs {t : TypeId} {s : ByteArray} {tab : List Nat} {xi : Operand} {yi : E} {v : AV} {H' : Heap} {fl : Fp} {call : Nat → List AV → Heap → Option (AV × Heap)} (hop : o.op = .index t (.const (.string s)) xi) (hh : HRel X φ w H)
    (ri : Rep (Rd X φ w) φ (ev c env yi) (a.eval xi)) (hu : (match P.underlying t with
    | some .string => true
    | _ => false) = true) (htab : s.data.toList.map (·.toNat) = tab) (hs : aOp c call env H (.ixs tab yi) = some (v, H', fl)) : Ok P X φ w o a v H' := by
  split at hu
  case h_2 => cases hu
  rename_i hu0
  clear hu
  simp only [aOp] at hs
  split at hs
  case h_2 => cases hs
  rename_i j hj
  obtain ⟨kk, ii, e1, e2, e3, e4, e5⟩ := idx_spec hj
  rw [e1] at ri
  have hxi := rep_int ri
  split at hs
  case h_2 => cases hs
  rename_i u hu'
  simp at hs
  obtain ⟨rfl, rfl, rfl⟩ := hs
  subst htab
  have hlt : j < s.size := by
    have h1 : s.data.size = s.size := rfl
    have h2 := e5
    simp at h2
    omega
  have hsj : s[j]? = some s[j] := getElem?_pos s j hlt
  have hu2 : s[j].toNat = u := by
    rw [List.getElem?_map] at hu'
    have : s.data.toList[j]? = some s[j] := by
      rw [Array.getElem?_toList]
      exact Array.getElem?_eq_getElem hlt
    rw [this] at hu'
    simpa using hu'
  refine Ok.quiet (v' := .int .u8 u) ?_ (.int _ _ _) hh
  subst e4
  have hcs : a.eval (.const (.string s)) = .string s := rfl
  simp only [execOp, hop, hcs, hxi, Instr.index, asIntOf, Sem.run_bind, Sem.run_pure, run_underlying hu0, Result.andThen_ok, e2, if_true, hsj, hu2]
theorem ok_clr {ca : Call} {x : Operand} {t : TypeId} {k : Nat} {zs : List AV} {y : E} {v : AV} {H' : Heap} {fl : Fp} {call : Nat → List AV → Heap → Option (AV × Heap)} (hop : o.op = .call ca) (hca : ca.callee = .builtin .clear) (hargs : ca.args = #[x]) (hty : ca.argTypes = #[t]) (hh : HRel X φ w H)
    (r : Rep (Rd X φ w) φ (ev c env y) (a.eval x)) (hk : elemIs P t k = true) (hz : elemZero P t zs = true) (hs : aOp c call env H (.clr k zs y) = some (v, H', fl)) : Ok P X φ w o a v H' := by
  obtain ⟨e, i, z, hu, hi, hik, hk0, hby, hiz, hzk⟩ := elemIs_spec hk
  simp only [elemZero, hu] at hz
  obtain ⟨i', z', hi', hz', hcs, hlf⟩ := zeroIs_cs (X := X) (φ := φ) (w := w) hz
  rw [hi] at hi'
  simp at hi'
  subst hi'
  rw [hiz] at hz'
  simp at hz'
  subst hz'
  have hzl : zs.length = k := by have := hcs.1; simp at this; omega
  have run0 : ∀ {ad : Option Addr} {cap : Nat}, a.eval x = .slice ad 0 cap → (execOp a.eval o).run P w = .ok (.value (.tuple #[])) w := by
    intro ad cap hx
    cases ad <;> simp [execOp, hop, resolve, hca, hargs, hty, invoke, builtin, hx, Builtin.clear_, run_underlying hu]
  simp only [aOp] at hs
  split at hs
  · rename_i hy
    simp at hs
    obtain ⟨rfl, rfl, rfl⟩ := hs
    rw [hy] at r
    generalize hx : a.eval x = ax at r
    cases r
    exact Ok.quiet (run0 hx) (.undef _) hh
  · rename_i k' hy
    simp at hs
    obtain ⟨rfl, rfl, rfl⟩ := hs
    rw [hy] at r
    generalize hx : a.eval x = ax at r
    cases r with
    | lst _ _ _ ad n cap u hn => simp at hn; subst hn; exact Ok.quiet (run0 hx) (.undef _) hh
    | lst0 => exact Ok.quiet (run0 hx) (.undef _) hh
  · rename_i k' b off len hy
    rw [hy] at r
    split at hs
    · rename_i h0
      subst h0
      simp at hs
      obtain ⟨rfl, rfl, rfl⟩ := hs
      generalize hx : a.eval x = ax at r
      cases r
      exact Ok.quiet (run0 hx) (.undef _) hh
    · rename_i h0
      split at hs
      case h_2 => cases hs
      rename_i cs hb
      split at hs
      case isFalse => cases hs
      rename_i hc
      obtain ⟨rfl, hfit⟩ := hc
      simp at hs
      obtain ⟨rfl, rfl, rfl⟩ := hs
      generalize hx : a.eval x = ax at r
      cases r with
      | sl _ _ _ _ _ ad cap hbl hcap hp =>
        obtain ⟨g, sz, arr, e2, h1, h2, h3, h4, h5, h6⟩ := hh.at hb
        obtain rfl := (hp g sz h1).1 (by omega)
        have rp : Rep (Rd X φ w) φ (.ptr b off) (.pointer (some ⟨g, off, none⟩)) := .ptr _ _ _ _ hbl fun g' sz' hg' => by
          rw [h1] at hg'
          simp at hg'
          rw [hg'.1]
        have hcz : Cs X φ w (rep zs len) (Builtin.zeroCells z.cells len).toList := by
          refine ⟨by rw [rep_length, hzl]; simp [Builtin.zeroCells, hzk], fun j c v hc hv => ?_⟩
          obtain ⟨u, q1, q2⟩ := rep_cs hcs (n := len) (m := len * k') (by rw [hzk]; omega) (arr := Builtin.zeroCells z.cells len) (by simp [Builtin.zeroCells, hzk]) (fun i hi => by simp [Builtin.zeroCells, hzk, hi]) j c hc
          rw [Array.getElem?_toList, q1] at hv
          simp at hv
          subst hv
          exact q2
        obtain ⟨g', w', e1, hst, q1, q2⟩ := write_ok (P := P) hh hb rp hcz (hcz.oneCell (rep_leaf hlf len)) (by rw [rep_length, hzl]; exact hfit)
        simp at e1
        subst e1
        refine Ok.value (v' := .tuple #[]) ?_ (.undef _) q1 q2
        cases len with
        | zero => exact absurd rfl h0
        | succ m => simp [execOp, hop, resolve, hca, hargs, hty, invoke, builtin, hx, Builtin.clear_, run_underlying hu, run_zero hi hiz, hst]
  · cases hs
end
end Go.Am
