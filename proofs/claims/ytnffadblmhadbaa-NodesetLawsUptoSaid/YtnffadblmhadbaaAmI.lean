/- Every operation; regions in the order of the text, and regions that draw their order. -/
import Derived.Test.YtnffadblmhadbaaAmH
set_option linter.unusedSimpArgs false
namespace Go.Am
section
variable {P : Program} {c : Cfg} {X : Nat → Prop} {φ : Phi} {w : World} {env : Env} {H : Heap} {a : Act} {o : Oper}

theorem op_ok {call : Nat → List AV → Heap → Option (AV × Heap)} (hok : CfgOK P c) (hcall : CallOK P c call) (he : ERel X φ w env a.tmps) (hg : GlOK c X φ w) (hh : HRel X φ w H) {kd : Kd} {v : AV} {H' : Heap} {fl : Fp}
    (hk : chkK P o.op kd = true) (hs : aOp c call env H kd = some (v, H', fl)) : Ok P X φ w o a v H' := by
  generalize hop : o.op = op at hk
  unfold chkK at hk
  split at hk
  case h_1 =>
    simp [aOp] at hs; obtain ⟨rfl, rfl, _⟩ := hs
    exact Ok.quiet (by simp [execOp, hop]) (eval_rep he hg hk) hh
  case h_2 =>
    simp [aOp] at hs; obtain ⟨rfl, rfl, _⟩ := hs
    exact Ok.quiet (by simp [execOp, hop]) (eval_rep he hg hk) hh
  case h_3 =>
    simp only [Bool.and_eq_true] at hk
    simp only [aOp] at hs
    split at hs
    case h_2 => cases hs
    rename_i t ht
    simp at hs; obtain ⟨rfl, rfl, _⟩ := hs
    have r := eval_rep (a := a) he hg hk.1.1
    rw [ht] at r
    exact ok_pick hop hh r (eval_rep he hg hk.1.2) (eval_rep he hg hk.2)
  case h_4 =>
    simp [aOp] at hs; obtain ⟨rfl, rfl, _⟩ := hs
    exact ok_new hop hh hk
  case h_5 =>
    simp only [aOp] at hs
    split at hs
    case isFalse => cases hs
    rename_i hl
    simp at hs; obtain ⟨rfl, rfl, _⟩ := hs
    exact ok_box hop hh (eval_rep he hg hk) hl
  case h_6 =>
    simp only [Bool.and_eq_true] at hk
    simp only [aOp] at hs
    split at hs
    case h_2 => cases hs
    rename_i cs hf
    simp at hs; obtain ⟨rfl, rfl, _⟩ := hs
    exact ok_build hop hh he hg hk.1 hk.2 hf
  case h_7 =>
    simp only [Bool.and_eq_true, decide_eq_true_eq] at hk
    obtain ⟨⟨⟨⟨h1, h2⟩, h3⟩, h4⟩, h5⟩ := hk
    subst h1
    simp only [aOp] at hs
    split at hs
    case h_2 => cases hs
    rename_i cs hf
    split at hs
    case isFalse => cases hs
    simp at hs; obtain ⟨rfl, rfl, _⟩ := hs
    exact ok_bslice hop hh he hg h2 h3 h4 h5 hf
  case h_8 =>
    simp only [Bool.and_eq_true, decide_eq_true_eq] at hk
    exact ok_ld hop hh (eval_rep he hg hk.2) hk.1 hs
  case h_9 =>
    simp only [Bool.and_eq_true] at hk
    simp only [aOp] at hs
    split at hs
    case h_2 => cases hs
    rename_i b off hb
    split at hs
    case h_2 => cases hs
    rename_i cs hcs
    split at hs
    case isFalse => cases hs
    rename_i hc
    simp at hs; obtain ⟨rfl, rfl, _⟩ := hs
    have r := eval_rep (a := a) he hg hk.1.2
    rw [hb] at r
    exact ok_st hop hh hcs hk.1.1 r (eval_rep he hg hk.2) hc.1 hc.2.1 hc.2.2
  case h_10 => exact ok_nilck hop hh (eval_rep he hg hk) hs
  case h_11 =>
    simp only [Bool.and_eq_true, decide_eq_true_eq] at hk
    obtain ⟨⟨h1, h2⟩, h3⟩ := hk
    subst h1
    simp only [aOp] at hs
    split at hs
    case h_2 => cases hs
    rename_i r hr
    simp at hs; obtain ⟨rfl, rfl, _⟩ := hs
    exact ok_bin hop hh (eval_rep he hg h2) (eval_rep he hg h3) hr
  case h_12 =>
    simp only [Bool.and_eq_true] at hk
    obtain ⟨⟨⟨h1, h2⟩, h3⟩, h4⟩ := hk
    simp only [aOp] at hs
    split at hs
    case h_2 => cases hs
    rename_i e hr
    simp at hs; obtain ⟨rfl, rfl, _⟩ := hs
    have := ok_eq hop hh h1 h2 (eval_rep he hg h3) (eval_rep he hg h4) hr
    simpa using this
  case h_13 =>
    simp only [Bool.and_eq_true, decide_eq_true_eq] at hk
    obtain ⟨h1, h2⟩ := hk
    subst h1
    simp only [aOp] at hs
    split at hs
    case h_2 => cases hs
    rename_i r hr
    simp at hs; obtain ⟨rfl, rfl, _⟩ := hs
    exact ok_un hop hh (eval_rep he hg h2) hr
  case h_14 =>
    simp only [Bool.and_eq_true] at hk
    obtain ⟨⟨h1, h2⟩, h3⟩ := hk
    split at h2
    case h_2 => cases h2
    rename_i k' hu
    simp at h2
    subst h2
    simp only [aOp] at hs
    split at hs
    case h_2 => cases hs
    rename_i k2 n hn
    simp at hs; obtain ⟨rfl, rfl, _⟩ := hs
    have r := eval_rep (a := a) he hg h3
    rw [hn] at r
    exact ok_cvt hop hh h1 hu r
  case h_15 =>
    simp only [Bool.and_eq_true, decide_eq_true_eq] at hk
    obtain ⟨⟨h1, h2⟩, h3⟩ := hk
    subst h1
    simp [aOp] at hs; obtain ⟨rfl, rfl, _⟩ := hs
    exact ok_mkf hop hh he hg h2 h3
  case h_16 =>
    simp only [Bool.and_eq_true] at hk
    obtain ⟨⟨⟨h1, h2⟩, h3⟩, h4⟩ := hk
    simp only [aOp] at hs
    split at hs
    case h_2 => cases hs
    rename_i k1 l k2 cp hl hcp
    split at hs
    case isFalse => cases hs
    rename_i hc
    simp at hs; obtain ⟨rfl, rfl, _⟩ := hs
    have r1 := eval_rep (a := a) he hg h3
    have r2 := eval_rep (a := a) he hg h4
    rw [hl] at r1
    rw [hcp] at r2
    exact ok_mks hop hh h1 h2 r1 r2 hc.1 hc.2.1 hc.2.2
  case h_17 =>
    simp only [Bool.and_eq_true] at hk
    obtain ⟨⟨⟨h1, h2⟩, h3⟩, h4⟩ := hk
    exact ok_slc hop hh he hg h1 h2 h3 h4 hs
  case h_18 =>
    simp only [Bool.and_eq_true] at hk
    exact ok_fad hop hh (eval_rep he hg hk.2) hk.1 hs
  case h_19 =>
    simp only [Bool.and_eq_true] at hk
    exact ok_fld hop hh (eval_rep he hg hk.2) hk.1 hs
  case h_20 =>
    simp only [Bool.and_eq_true] at hk
    exact ok_ixa hop hh (eval_rep he hg hk.1.2) (eval_rep he hg hk.2) hk.1.1 hs
  case h_21 =>
    simp only [Bool.and_eq_true] at hk
    exact ok_ixp hop hh (eval_rep he hg hk.1.2) (eval_rep he hg hk.2) hk.1.1 hs
  case h_22 =>
    simp only [Bool.and_eq_true] at hk
    exact ok_ix hop hh (eval_rep he hg hk.1.2) (eval_rep he hg hk.2) hk.1.1 hs
  case h_23 =>
    simp only [Bool.and_eq_true, decide_eq_true_eq] at hk
    exact ok_ixs hop hh (eval_rep he hg hk.2) hk.1.1 hk.1.2 hs
  case h_24 =>
    rename_i args argTypes k zs x
    split at hk
    case h_2 => cases hk
    rename_i x' t h1 h2
    simp only [Bool.and_eq_true] at hk
    exact ok_clr (x := x') (t := t) hop rfl (Array.toList_inj.1 h1) (Array.toList_inj.1 h2) hh (eval_rep he hg hk.2) hk.1.1 hk.1.2 hs
  case h_25 =>
    simp only [Bool.and_eq_true, decide_eq_true_eq] at hk
    obtain ⟨h1, h2⟩ := hk
    subst h1
    simp only [aOp] at hs
    split at hs
    case h_2 => cases hs
    rename_i vs hv
    split at hs
    case h_2 => cases hs
    rename_i u hu
    simp at hs; obtain ⟨rfl, rfl, _⟩ := hs
    have r := eval_rep (a := a) he hg h2
    rw [hv] at r
    exact ok_ext hop hh r hu
  case h_26 =>
    simp only [Bool.and_eq_true, decide_eq_true_eq] at hk
    obtain ⟨h1, h2⟩ := hk
    subst h1
    exact ok_call hok hcall hop rfl hh he hg h2 hs
  case h_27 =>
    simp only [Bool.and_eq_true] at hk
    exact ok_callv hok hcall hop rfl hh he hg hk.1 hk.2 hs
  case h_28 =>
    rename_i args argTypes y
    split at hk
    case h_2 => cases hk
    rename_i x t h1 h2
    simp only [Bool.and_eq_true] at hk
    exact ok_len (x := x) (t := t) hop rfl (Array.toList_inj.1 h1) (Array.toList_inj.1 h2) hh (eval_rep he hg hk.2) hk.1 hs
  case h_29 =>
    rename_i args argTypes k x y
    split at hk
    case h_2 => cases hk
    rename_i x' y' t t' h1 h2
    simp only [Bool.and_eq_true, decide_eq_true_eq] at hk
    obtain ⟨⟨⟨h3, h4⟩, h5⟩, h6⟩ := hk
    subst h3
    exact ok_app (x := x') (y := y') (t := t) hop rfl (Array.toList_inj.1 h1) (Array.toList_inj.1 h2) hh (eval_rep he hg h5) (eval_rep he hg h6) h4 hs
  case h_30 =>
    simp only [aOp] at hs
    split at hs
    case h_2 => cases hs
    rename_i r hr
    simp at hs; obtain ⟨rfl, rfl, _⟩ := hs
    exact ok_min (mx := false) hop rfl hh he hg hk hr
  case h_31 =>
    simp only [aOp] at hs
    split at hs
    case h_2 => cases hs
    rename_i r hr
    simp at hs; obtain ⟨rfl, rfl, _⟩ := hs
    exact ok_min (mx := true) hop rfl hh he hg hk hr
  case h_32 => cases hk

structure SRel (X : Nat → Prop) (φ : Phi) (w : World) (s : St) (a : Act) (N : Nat) : Prop where
  env : ERel X φ w s.env a.tmps
  heap : HRel X φ w s.H
  defers : a.defers = []
  size : a.tmps.size = N

theorem put_sz (a : Act) (d : Option Nat) (v : Value) : (a.put d v).tmps.size = a.tmps.size ∧ (a.put d v).defers = a.defers := by cases d <;> simp [Act.put]
theorem SRel.put {s : St} {N : Nat} {φ' : Phi} {w' : World} {d : Option Nat} {v : AV} {v' : Value} {H' : Heap} (h : SRel X φ w s a N) (hd : ∀ i, d = some i → i < N) (r : Rep (Rd X φ' w') φ' v v') (hh : HRel X φ' w' H') (k : Adv φ w φ' w') :
    SRel X φ' w' ⟨putd s.env d v, H'⟩ (a.put d v') N := by
  obtain ⟨h1, h2⟩ := put_sz a d v'
  refine ⟨?_, hh, by rw [h2]; exact h.defers, by rw [h1]; exact h.size⟩
  cases d with
  | none => exact h.env.adv k
  | some i => exact (h.env.adv k).put (by rw [h.size]; exact hd i rfl) r
theorem getD_bool {ts : Array Value} {g : Nat} {b : Bool} (h : ts.getD g undef = .bool b) : ts[g]? = some (.bool b) := by
  rw [Array.getD_eq_getD_getElem?] at h
  cases hg : ts[g]? with
  | none => rw [hg] at h; simp [undef] at h
  | some v => rw [hg] at h; simp at h; rw [h]
theorem getD_undef {ts : Array Value} {g : Nat} (h : ts.getD g undef = .tuple #[]) : ts[g]? = none ∨ ts[g]? = some (.tuple #[]) := by
  rw [Array.getD_eq_getD_getElem?] at h
  cases hg : ts[g]? with
  | none => exact .inl rfl
  | some v => rw [hg] at h; simp at h; rw [h]; exact .inr rfl

/-- One operation of a region, wanted or not. -/
theorem step_ok {call : Nat → List AV → Heap → Option (AV × Heap)} (hok : CfgOK P c) (hcall : CallOK P c call) {N : Nat} {ops : Array Oper} {q : O} {s s' : St} {fl : Fp} (hc : chkO P N ops o q = true)
    (hs : stepO c call s q = some (s', fl)) (hr : SRel X φ w s a N) (hg : GlOK c X φ w) {K : Act → World → Prop} {Q : Exit → Act → World → Prop} (hK : ∀ a' w' φ', SRel X φ' w' s' a' N → Adv φ w φ' w' → K a' w') :
    if Region.wanted o (yielded ops a.tmps) then o.wp P a w K Q ∨ (o.asks P a w ∧ LetsOut Q) else K (a.put o.dst undef) w := by
  simp only [chkO, Bool.and_eq_true, decide_eq_true_eq] at hc
  obtain ⟨⟨⟨hdst, hd⟩, hgd⟩, hk⟩ := hc
  have hd' : ∀ i, o.dst = some i → i < N := by
    intro i hi
    rw [← hdst, hi] at hd
    simpa using hd
  have run : ∀ {v H' fl'}, aOp c call s.env s.H q.kd = some (v, H', fl') → s' = ⟨putd s.env q.dst v, H'⟩ → o.wp P a w K Q := by
    intro v H' fl' hv hs'
    refine op_ok hok hcall hr.env hg hr.heap hk hv K Q fun v' w' φ' r h k => hK _ _ φ' ?_ k
    rw [hs', ← hdst]
    exact hr.put hd' r h k
  have no : s' = ⟨putd s.env q.dst .undef, s.H⟩ → K (a.put o.dst undef) w := by
    intro hs'
    refine hK _ _ φ ?_ (.refl _ _)
    rw [hs', ← hdst]
    exact hr.put hd' (.undef _) hr.heap (.refl _ _)
  unfold stepO at hs
  split at hs
  · rename_i hgn
    rw [hgn] at hgd
    split at hgd
    · rename_i h1 _
      rw [if_pos (by simp [Region.wanted, h1])]
      split at hs
      · rename_i v H' fl' hv
        simp at hs
        exact .inl (run hv hs.1.symm)
      · cases hs
    · rename_i h2; simp at h2
    · cases hgd
  · rename_i g want hgn
    rw [hgn] at hgd
    split at hgd
    · rename_i h2; simp at h2
    · rename_i j want' g' want'' h1 h2
      simp only [Bool.and_eq_true, decide_eq_true_eq] at hgd
      obtain ⟨hj, rfl⟩ := hgd
      simp at h2
      obtain ⟨rfl, rfl⟩ := h2
      have hrep := hr.env g
      split at hs
      · rename_i b hb
        rw [hb] at hrep
        have hv := rep_bool hrep
        have hy : yielded ops a.tmps j = some b := by unfold yielded; rw [hj]; simp only [Option.bind_some]; rw [getD_bool hv]
        by_cases hbw : b = want
        · subst hbw
          rw [if_pos (by simp [Region.wanted, h1, hy])]
          simp only [if_true] at hs
          split at hs
          · rename_i v H' fl' hv
            simp at hs
            exact .inl (run hv hs.1.symm)
          · cases hs
        · rw [if_neg (by simp [Region.wanted, h1, hy, hbw])]
          rw [if_neg hbw] at hs
          simp at hs
          exact no hs.1.symm
      · rename_i hb
        rw [hb] at hrep
        generalize hv : a.tmps.getD g undef = vg at hrep
        cases hrep
        have hy : yielded ops a.tmps j = none := by
          unfold yielded
          rw [hj]
          simp only [Option.bind_some]
          rcases getD_undef hv with h | h <;> rw [h]
        rw [if_neg (by simp [Region.wanted, h1, hy])]
        simp at hs
        exact no hs.1.symm
      · cases hs
    · cases hgd

/-- A region in the order of the text. -/
theorem ops_ok {call : Nat → List AV → Heap → Option (AV × Heap)} (hok : CfgOK P c) (hcall : CallOK P c call) {N : Nat} {ops : Array Oper} {Q : Exit → Act → World → Prop} : ∀ (l : List Oper) (qs : List O) (k : Nat) (s s' : St) (fls : List Fp) (a : Act) (w : World) (φ : Phi),
    (∀ j, l[j]? = ops[k + j]?) → chkOs P N ops l qs = true → aOps c call qs s = some (s', fls) → SRel X φ w s a N → GlOK c X φ w → (∀ a' w' φ', SRel X φ' w' s' a' N → Adv φ w φ' w' → Q .normal a' w') →
    wpOps P ops Q (List.range' k l.length) a w
  | [], qs, k, s, s', fls, a, w, φ, _, hc, hs, hr, hg, hQ => by
    cases qs with
    | nil =>
      simp [aOps] at hs
      obtain ⟨rfl, rfl⟩ := hs
      exact hQ a w φ hr (.refl _ _)
    | cons q r => simp [chkOs] at hc
  | o :: l, qs, k, s, s', fls, a, w, φ, hl, hc, hs, hr, hg, hQ => by
    cases qs with
    | nil => simp [chkOs] at hc
    | cons q r =>
      simp only [chkOs, Bool.and_eq_true] at hc
      simp only [aOps] at hs
      split at hs
      case h_2 => cases hs
      rename_i s1 fl1 h1
      split at hs
      case h_2 => cases hs
      rename_i s2 fl2 h2
      simp at hs
      obtain ⟨rfl, rfl⟩ := hs
      have h0 : ops[k]? = some o := by simpa using (hl 0).symm
      rw [List.length_cons, List.range'_succ, wpOps_cons]
      unfold wpOp
      rw [h0]
      refine step_ok hok hcall hc.1 h1 hr hg fun a' w' φ' hr' k' => ?_
      exact ops_ok hok hcall l r (k + 1) s1 s2 fl2 a' w' φ' (fun j => by have := hl (j + 1); simpa [Nat.add_assoc, Nat.add_comm 1 j] using this) hc.2 h2 hr' (hg.adv k') fun a'' w'' φ'' h'' k'' => hQ a'' w'' φ'' h'' (k'.trans k'')
end
end Go.Am
