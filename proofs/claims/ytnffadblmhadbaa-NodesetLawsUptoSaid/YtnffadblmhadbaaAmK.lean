/- A run of the compact code is a run of the dump's code; calls; the theorem that ties a call to the kit's 'Calls'. -/
import Derived.Test.YtnffadblmhadbaaAmJ
set_option linter.unusedSimpArgs false
namespace Go.Am
section
variable {P : Program} {c : Cfg}

def Ex.to : Ex → Exit
  | .normal => .normal
  | .exit id => .exit id
  | .ret => .ret

def LW (P : Program) (cd : Code) (Q : Exit → Act → World → Prop) (a : Act) (w : World) : Prop :=
  ∀ (b : Frame) (k : List Item) (cs : List Frame), ∃ e a' w', Q e a' w' ∧ Arrives P (lone (b.at a (.code cd :: .inLoop cd :: k)) cs w) b k cs e a' w'
theorem LW.loop {cd : Code} {Q : Exit → Act → World → Prop} {a : Act} {w : World} (h : LW P cd Q a w) : (Code.loop cd).wp P Q a w := by
  intro b k cs
  obtain ⟨e, a', w', hq, harr⟩ := h b k cs
  exact ⟨e, a', w', hq, .of_steps (.one step_loop) harr⟩
theorem LW.step {cd : Code} {Q : Exit → Act → World → Prop} {a : Act} {w : World} (h : cd.wp P (Exit.then (LW P cd Q) Q) a w) : LW P cd Q a w := by
  intro b k cs
  obtain ⟨e, a1, w1, hq, harr⟩ := h b (.inLoop cd :: k) cs
  cases e with
  | normal =>
    obtain ⟨e2, a2, w2, hq2, harr2⟩ := hq b k cs
    exact ⟨e2, a2, w2, hq2, .of_steps (Steps.trans harr (.one step_inLoop)) harr2⟩
  | exit id => exact ⟨_, a1, w1, hq, .pass (x := .inLoop cd) rfl (fun _ _ => .inl (by simp)) harr⟩
  | goto l => exact ⟨_, a1, w1, hq, .pass (x := .inLoop cd) rfl (fun _ _ => .inl (by simp)) harr⟩
  | ret => exact ⟨_, a1, w1, hq, .pass (x := .inLoop cd) rfl (fun _ _ => .inl (by simp)) harr⟩
  | panic ch => exact ⟨_, a1, w1, hq, .pass (x := .inLoop cd) rfl (fun _ _ => .inl (by simp)) harr⟩
  | outgrown => exact ⟨_, a1, w1, hq, .pass (x := .inLoop cd) rfl (fun _ _ => .inl (by simp)) harr⟩

def OrcOK (P : Program) (c : Cfg) : Prop := ∀ f g, c.orc f = some g → ∀ args H r H', g args H = some (r, H') → ∀ X φ w vargs, ARel X φ w args vargs → HRel X φ w H → GlOK c X φ w → Calls P f vargs w (Ret X φ w r H')
/-- What a run of n steps' depth is worth. -/
def Snd (P : Program) (c : Cfg) (n : Nat) : Prop := ∀ (N : Nat) (code : Code) (cd : C) (s s' : St) (e : Ex), chk P N code cd = true → aCode c n cd s = some (e, s') → ∀ X φ w a, SRel X φ w s a N → GlOK c X φ w →
  ∀ Q : Exit → Act → World → Prop, (∀ a' w' φ', SRel X φ' w' s' a' N → Adv φ w φ' w' → Q e.to a' w') → code.wp P Q a w

theorem get_mkEnv : ∀ (args : List AV) (k i : Nat), get (mkEnv k args) i = if k ≤ i then args[i - k]?.getD .any else .any
  | [], k, i => by simp [mkEnv, get]
  | x :: r, k, i => by
    simp only [mkEnv, get]
    by_cases h : i = k
    · subst h; simp
    · rw [if_neg h, get_mkEnv r (k + 1) i]
      by_cases h2 : k + 1 ≤ i
      · rw [if_pos h2, if_pos (by omega), show i - k = (i - (k + 1)) + 1 by omega, List.getElem?_cons_succ]
      · rw [if_neg h2, if_neg (by omega)]
theorem res_ok {X : Nat → Prop} {φ : Phi} {w : World} {s : St} {ts : Array Value} (he : ERel X φ w s.env ts) (hh : HRel X φ w s.H) : ∀ {rs : List ResultVar} {qs : List Rv} {xs : List AV}, chkRs P rs qs = true → resL s.H s.env qs = some xs →
    ∃ vs : List Value, (rs.mapM (m := Sem) fun
      | .tmp t => pure (ts.getD t undef)
      | .cell a t => do loadVar t (← asAddr (ts.getD a undef))).run P w = .ok vs w ∧ Cs X φ w xs vs
  | [], [], xs, _, h => by simp [resL] at h; subst h; exact ⟨[], rfl, rfl, fun i c v hc => by simp at hc⟩
  | [], _ :: _, _, h, _ => by simp [chkRs] at h
  | _ :: _, [], _, h, _ => by simp [chkRs] at h
  | r :: rs, q :: qs, xs, h, hx => by
    simp only [chkRs, Bool.and_eq_true] at h
    simp only [resL] at hx
    split at hx
    case h_2 => cases hx
    rename_i x ys h1 h2
    simp at hx
    subst hx
    obtain ⟨vs, e1, e2⟩ := res_ok he hh h.2 h2
    have one : ∃ v, (match r with
      | .tmp t => pure (ts.getD t undef)
      | .cell a t => do loadVar t (← asAddr (ts.getD a undef)) : Sem Value).run P w = .ok v w ∧ Rep (Rd X φ w) φ x v := by
      have hr := h.1
      unfold chkR at hr
      split at hr
      · rename_i t i
        simp at hr
        subst hr
        simp [resA] at h1
        subst h1
        exact ⟨_, rfl, he _⟩
      · rename_i a t i ag
        simp only [Bool.and_eq_true, decide_eq_true_eq] at hr
        obtain ⟨rfl, hag⟩ := hr
        have r := he a
        simp only [resA] at h1
        split at h1
        · rename_i b off hg
          split at h1
          case h_2 => cases h1
          rename_i cs hcs
          rw [hg] at r
          obtain ⟨g, sz, arr, e, h3, _, _, _, _, _, _, h4⟩ := Plc.of_ptr hh hcs r
          obtain ⟨u, h5, h6⟩ := load_ok hag h1 h4
          exact ⟨u, by simp [h3, asAddr, h5], h6⟩
        · rename_i cs hg
          rw [hg] at r
          obtain ⟨ad, h3, h4⟩ := Plc.of_fptr r
          obtain ⟨u, h5, h6⟩ := load_ok hag h1 h4
          exact ⟨u, by simp [h3, asAddr, h5], h6⟩
        · cases h1
      · cases hr
    obtain ⟨v, e3, e4⟩ := one
    refine ⟨v :: vs, ?_, by simp [e2.1], fun i c u hc hu => ?_⟩
    · simp only [List.mapM_cons, Sem.run_bind, Sem.run_pure]
      rw [e3]
      simp only [Result.andThen_ok]
      rw [e1]
      simp only [Result.andThen_ok]
    · cases i with
      | zero => simp at hc hu; subst hc; subst hu; exact e4
      | succ i => simp at hc hu; exact e2.2 i c u hc hu
theorem run_results {X : Nat → Prop} {φ : Phi} {w : World} {s : St} {ts : Array Value} {fn : Func} {qs : List Rv} {xs : List AV} (he : ERel X φ w s.env ts) (hh : HRel X φ w s.H) (hc : chkRs P fn.results.toList qs = true) (hx : resL s.H s.env qs = some xs) :
    ∃ v, (results fn ts).run P w = .ok v w ∧ Rep (Rd X φ w) φ (tupOf xs) v := by
  obtain ⟨vs, h1, h2⟩ := res_ok (P := P) he hh hc hx
  have h3 : (fn.results.mapM (m := Sem) fun
      | .tmp t => pure (ts.getD t undef)
      | .cell a t => do loadVar t (← asAddr (ts.getD a undef))).run P w = .ok vs.toArray w := by
    rw [← Array.toArray_toList (xs := fn.results), List.mapM_toArray]
    simp only [Sem.run_map]
    rw [h1]
    simp only [Result.andThen_ok]
  have h4 : (results fn ts).run P w = (Result.ok vs.toArray w).andThen (fun (a : Array Value) w' => (pure (if h : a.size = 1 then a[0] else .tuple a) : Sem Value).run P w') := by
    unfold results
    simp only [Sem.run_bind]
    exact congrArg (fun z => Result.andThen z _) h3
  rw [h4]
  simp only [Result.andThen_ok, Sem.run_pure]
  refine ⟨_, rfl, ?_⟩
  obtain ⟨hl, hr⟩ := h2
  match xs, vs, hl, hr with
  | [], [], _, _ => exact .tup _ _ _ rfl fun i c v hc => by simp at hc
  | [x], [v], _, hr => exact hr 0 x v rfl rfl
  | x :: y :: xs, v :: u :: vs, hl, hr =>
    have e : ¬ ((v :: u :: vs).toArray.size = 1) := by simp
    rw [dif_neg e]
    exact .tup _ _ _ (by simpa using hl) fun i c z hc hz => hr i c z hc (by simpa using hz)

theorem callW_ok (hok : CfgOK P c) (horc : OrcOK P c) {n : Nat} (hs : Snd P c n) : CallOK P c (callW c (aCode c n)) := by
  intro f m q hf args H r H' h X φ w vargs ha hh hg
  unfold callW at h
  split at h
  · rename_i g hgo
    exact horc f g hgo args H r H' h X φ w vargs ha hh hg
  · rw [hf] at h
    simp only at h
    split at h
    case isFalse => cases h
    rename_i hle
    obtain ⟨fn, h1, h2⟩ := hok.fn f m q hf
    simp only [chkF, Bool.and_eq_true, decide_eq_true_eq] at h2
    obtain ⟨⟨⟨hn, _⟩, hres⟩, hbody⟩ := h2
    split at hbody
    case h_2 => cases hbody
    rename_i code hb
    have hsize : (vargs ++ Array.replicate (fn.ntmps - vargs.size) undef).size = q.n := by
      have := ha.1
      simp; omega
    have hS : SRel X φ w ⟨mkEnv 0 args, H⟩ { tmps := vargs ++ Array.replicate (fn.ntmps - vargs.size) undef, defers := [] } q.n := by
      refine ⟨fun i => ?_, hh, rfl, hsize⟩
      rw [get_mkEnv]
      simp only [Nat.zero_le, if_true, Nat.sub_zero]
      cases hi : args[i]? with
      | none => exact .any _ _
      | some x =>
        have hlt : i < vargs.size := ha.1 ▸ lt_of_getElem? hi
        obtain ⟨v, hv⟩ := agetElem?_some_of hlt
        simp only [Option.getD_some]
        rw [Array.getD_eq_getD_getElem?, Array.getElem?_append_left hlt, hv]
        exact ha.2 i x v hi hv
    have fin : ∀ {e : Ex} {s : St} {vs : List AV}, aCode c n q.body ⟨mkEnv 0 args, H⟩ = some (e, s) → (e = .ret ∨ e = .normal) → resL s.H s.env q.res = some vs → tupOf vs = r → s.H = H' → Calls P f vargs w (Ret X φ w r H') := by
      intro e s vs he hre hvs hr hH
      subst hr; subst hH
      refine calls_of_wp h1 hb (hs q.n code q.body _ s e hbody he X φ w _ hS hg _ fun a' w' φ' hS' hadv => ?_)
      obtain ⟨v, k1, k2⟩ := run_results (P := P) hS'.env hS'.heap hres hvs
      have : bodyPost P fn (Ret X φ w (tupOf vs) s.H) .ret a' w' := ⟨hS'.defers, v, k1, v, φ', rfl, k2, hS'.heap, hadv⟩
      rcases hre with rfl | rfl
      · exact this
      · exact this
    split at h
    · rename_i s he
      split at h
      · rename_i vs hvs
        simp at h
        exact fin he (.inl rfl) hvs h.1 h.2
      · cases h
    · rename_i s he
      split at h
      · rename_i vs hvs
        simp at h
        exact fin he (.inr rfl) hvs h.1 h.2
      · cases h
    · cases h

theorem snd_all (hok : CfgOK P c) (horc : OrcOK P c) : ∀ n, Snd P c n
  | 0 => fun N code cd s s' e _ h => by simp [aCode] at h
  | n + 1 => by
    have ih := snd_all hok horc n
    have hcall := callW_ok hok horc ih
    intro N code cd s s' e hc h X φ w a hr hg Q hQ
    unfold chk at hc
    split at hc
    case h_1 => simp [aCode] at h; obtain ⟨rfl, rfl⟩ := h; exact wp_skip (hQ a w φ hr (.refl _ _))
    case h_2 => simp [aCode] at h; obtain ⟨rfl, rfl⟩ := h; exact wp_ret (hQ a w φ hr (.refl _ _))
    case h_3 =>
      simp only [decide_eq_true_eq] at hc
      subst hc
      simp [aCode] at h; obtain ⟨rfl, rfl⟩ := h; exact wp_exit (hQ a w φ hr (.refl _ _))
    case h_4 =>
      rename_i id ops d os dr un keep
      simp only [Bool.and_eq_true, decide_eq_true_eq] at hc
      obtain ⟨⟨rfl, hcs⟩, ho⟩ := hc
      simp only [aCode] at h
      split at h
      case h_2 => cases h
      rename_i s1 fls hs
      split at h
      case isFalse => cases h
      rename_i hd
      simp at h
      obtain ⟨rfl, rfl⟩ := h
      have hQ' : ∀ a' w' φ', SRel X φ' w' s1 a' N → Adv φ w φ' w' → Q .normal a' w' := fun a' w' φ' h k => hQ a' w' φ' ⟨h.env.keepIn keep, h.heap, h.defers, h.size⟩ k
      cases d with
      | false =>
        refine wp_region ?_
        rw [List.range_eq_range', ← Array.length_toList]
        exact ops_ok hok hcall ops.toList os 0 s s1 fls a w φ (fun j => by simp) hcs hs hr hg hQ'
      | true =>
        simp at ho hd
        exact draw_ok hok hcall hcs ho hs hd hr hg hQ'
    case h_5 =>
      rename_i x y cx cy
      simp only [Bool.and_eq_true] at hc
      simp only [aCode] at h
      refine wp_seq ?_
      cases h1 : aCode c n cx s with
      | none => rw [h1] at h; cases h
      | some p =>
        obtain ⟨e1, s1⟩ := p
        rw [h1] at h
        cases e1 with
        | normal =>
          simp only at h
          exact ih N x cx s s1 .normal hc.1 h1 X φ w a hr hg _ fun a' w' φ' hr' k => ih N y cy s1 s' e hc.2 h X φ' w' a' hr' (hg.adv k) Q fun a'' w'' φ'' hr'' k'' => hQ a'' w'' φ'' hr'' (k.trans k'')
        | exit id => simp at h; obtain ⟨rfl, rfl⟩ := h; exact ih N x cx s s1 _ hc.1 h1 X φ w a hr hg _ fun a' w' φ' hr' k => hQ a' w' φ' hr' k
        | ret => simp at h; obtain ⟨rfl, rfl⟩ := h; exact ih N x cx s s1 _ hc.1 h1 X φ w a hr hg _ fun a' w' φ' hr' k => hQ a' w' φ' hr' k
    case h_6 =>
      rename_i x ca cb y da db
      simp only [Bool.and_eq_true] at hc
      simp only [aCode] at h
      split at h
      case h_2 => cases h
      rename_i t ht
      have r := eval_rep (a := a) hr.env hg hc.1.1
      rw [ht] at r
      refine wp_cond (t := t) (rep_bool r) ?_
      cases t with
      | true => simp at h ⊢; exact ih N ca da s s' e hc.1.2 h X φ w a hr hg Q hQ
      | false => simp at h ⊢; exact ih N cb db s s' e hc.2 h X φ w a hr hg Q hQ
    case h_7 =>
      rename_i i b j x
      simp only [Bool.and_eq_true, decide_eq_true_eq] at hc
      obtain ⟨rfl, hc⟩ := hc
      simp only [aCode] at h
      refine wp_block ?_
      cases h1 : aCode c n x s with
      | none => rw [h1] at h; cases h
      | some p =>
        obtain ⟨e1, s1⟩ := p
        rw [h1] at h
        refine ih N b x s s1 e1 hc h1 X φ w a hr hg _ fun a' w' φ' hr' k => ?_
        cases e1 with
        | normal => simp at h; obtain ⟨rfl, rfl⟩ := h; exact hQ a' w' φ' hr' k
        | ret => simp at h; obtain ⟨rfl, rfl⟩ := h; exact hQ a' w' φ' hr' k
        | exit id =>
          simp only at h
          split at h
          · rename_i hid
            simp at h; obtain ⟨rfl, rfl⟩ := h
            simp only [Ex.to, Exit.inBlock, hid, if_true]
            exact hQ a' w' φ' hr' k
          · rename_i hid
            simp at h; obtain ⟨rfl, rfl⟩ := h
            simp only [Ex.to, Exit.inBlock, hid, if_false]
            exact hQ a' w' φ' hr' k
    case h_8 =>
      rename_i b x
      simp only [aCode] at h
      have key : ∀ m, m ≤ n → ∀ s a w φ, aCode c m (.loop x) s = some (e, s') → SRel X φ w s a N → GlOK c X φ w → (∀ a' w' φ', SRel X φ' w' s' a' N → Adv φ w φ' w' → Q e.to a' w') → LW P b Q a w := by
        intro m
        induction m with
        | zero => intro _ s a w φ h; simp [aCode] at h
        | succ m ihm =>
          intro hm s a w φ h hr hg hQ
          simp only [aCode] at h
          refine LW.step ?_
          have ihb : Snd P c m := snd_all hok horc m
          cases h1 : aCode c m x s with
          | none => rw [h1] at h; cases h
          | some p =>
            obtain ⟨e1, s1⟩ := p
            rw [h1] at h
            refine ihb N b x s s1 e1 hc h1 X φ w a hr hg _ fun a' w' φ' hr' k => ?_
            cases e1 with
            | normal => simp only at h; exact ihm (by omega) s1 a' w' φ' h hr' (hg.adv k) fun a'' w'' φ'' hr'' k'' => hQ a'' w'' φ'' hr'' (k.trans k'')
            | exit id => simp at h; obtain ⟨rfl, rfl⟩ := h; exact hQ a' w' φ' hr' k
            | ret => simp at h; obtain ⟨rfl, rfl⟩ := h; exact hQ a' w' φ' hr' k
      refine LW.loop (LW.step ?_)
      cases h1 : aCode c n x s with
      | none => rw [h1] at h; cases h
      | some p =>
        obtain ⟨e1, s1⟩ := p
        rw [h1] at h
        refine ih N b x s s1 e1 hc h1 X φ w a hr hg _ fun a' w' φ' hr' k => ?_
        cases e1 with
        | normal => simp only at h; exact key n (Nat.le_refl _) s1 a' w' φ' h hr' (hg.adv k) fun a'' w'' φ'' hr'' k'' => hQ a'' w'' φ'' hr'' (k.trans k'')
        | exit id => simp at h; obtain ⟨rfl, rfl⟩ := h; exact hQ a' w' φ' hr' k
        | ret => simp at h; obtain ⟨rfl, rfl⟩ := h; exact hQ a' w' φ' hr' k
    case h_9 => cases hc

/-- A call, from a world of which nothing is known but how the arguments read. -/
theorem calls_of (hok : CfgOK P c) (horc : OrcOK P c) {n f : Nat} {m : Md} {q : AFn} (hf : c.fn f = some (m, q)) {args : List AV} {r : AV} {H' : Heap} (h : aCall c n f args [] = some (r, H')) {w : World} {vargs : Array Value}
    (ha : ARel (fun _ => False) [] w args vargs) (hg : GlOK c (fun _ => False) [] w) : Calls P f vargs w (fun e w' => ∃ v φ', e = .returned v ∧ Rep (Rd (fun _ => False) φ' w') φ' r v ∧ RowKit.Below w.heap.size w w') := by
  refine (callW_ok hok horc (snd_all hok horc n) f m q hf args [] r H' h (fun _ => False) [] w vargs ha ⟨rfl, fun g h => h.elim, fun b cs hb => by simp at hb, fun b hb => by simp at hb, fun b b' g sz sz' h1 => by simp at h1⟩ hg).mono ?_
  rintro e w' ⟨v', φ', rfl, r1, h1, a1⟩
  exact ⟨v', φ', rfl, r1, a1.os, a1.tape, a1.output, a1.size, fun k hk => (a1.keep k hk (Owned.nil k)).1⟩
#print axioms calls_of
end
end Go.Am
