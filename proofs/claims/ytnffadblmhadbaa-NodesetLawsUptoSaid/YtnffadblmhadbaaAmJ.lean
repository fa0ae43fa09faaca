/- Regions that draw their order: the order makes no difference. -/
import Derived.Test.YtnffadblmhadbaaAmI
set_option linter.unusedSimpArgs false
namespace Go.Am
section
variable {P : Program} {c : Cfg} {call : Nat → List AV → Heap → Option (AV × Heap)}

theorem ev_congr {e1 e2 : Env} {x : E} (h : ∀ i ∈ x.slot, get e1 i = get e2 i) : ev c e1 x = ev c e2 x := by
  cases x with
  | t i => exact h i (by simp [E.slot])
  | k x => rfl
  | g i => rfl
theorem evs_congr {e1 e2 : Env} : ∀ {xs : List E}, (∀ i ∈ slots xs, get e1 i = get e2 i) → evs c e1 xs = evs c e2 xs
  | [], _ => rfl
  | x :: r, h => by
    simp only [slots, List.mem_append] at h
    simp only [evs]
    rw [ev_congr fun i hi => h i (.inl hi), evs_congr fun i hi => h i (.inr hi)]
theorem fillA_congr {e1 e2 : Env} : ∀ {ps : List (Nat × Nat × E)} {zs : List AV}, (∀ i ∈ slotsP ps, get e1 i = get e2 i) → fillA c e1 zs ps = fillA c e2 zs ps
  | [], _, _ => by simp [fillA]
  | (o, s, x) :: r, zs, h => by
    simp only [slotsP, List.mem_append] at h
    simp only [fillA]
    rw [ev_congr fun i hi => h i (.inl hi)]
    split
    · exact fillA_congr fun i hi => h i (.inr hi)
    · rfl
theorem bndO_congr {e1 e2 : Env} {d m : Nat} {x : Option E} (h : ∀ i ∈ slotO x, get e1 i = get e2 i) : bndO c e1 d m x = bndO c e2 d m x := by
  cases x with
  | none => rfl
  | some x => simp only [bndO]; rw [ev_congr h]
theorem aOp_congr {e1 e2 : Env} {H : Heap} {kd : Kd} (h : ∀ i ∈ kd.reads, get e1 i = get e2 i) : aOp c call e1 H kd = aOp c call e2 H kd := by
  cases kd <;> simp only [Kd.reads, List.mem_append] at h <;> simp only [aOp]
  case pick x y z => rw [ev_congr fun i hi => h i (.inl hi), ev_congr fun i hi => h i (.inr (.inl hi)), ev_congr fun i hi => h i (.inr (.inr hi))]
  case build => rw [fillA_congr h]
  case bslice => rw [fillA_congr h]
  case slc k x lo hi => rw [ev_congr fun i hi => h i (.inl hi)]; simp only [bndO_congr (c := c) fun i hi => h i (.inr (.inl hi)), bndO_congr (c := c) fun i hi => h i (.inr (.inr hi))]
  case call => rw [evs_congr h]
  case min => rw [evs_congr h]
  case max => rw [evs_congr h]
  case mkf => rw [evs_congr fun i hi => h i (.inl hi), evs_congr fun i hi => h i (.inr hi)]
  case callv => rw [ev_congr fun i hi => h i (.inl hi), evs_congr fun i hi => h i (.inr hi)]
  all_goals first
    | rfl
    | rw [ev_congr h]
    | rw [ev_congr fun i hi => h i (.inl hi), ev_congr fun i hi => h i (.inr hi)]
theorem blk_set_ne {H : Heap} {b b' : Nat} {x : Blk} (h : b ≠ b') : blk (H.set b x) b' = blk H b' := by
  unfold blk; rw [List.getElem?_set_ne h]
theorem blk_append {H T : Heap} {b : Nat} (h : b < H.length) : blk (H ++ T) b = blk H b := by
  unfold blk; rw [List.getElem?_append_left h]
/-- What the footprint of an operation is worth. -/
def FpOK (fp : Fp) (H H' : Heap) (v : AV) (f : Heap → Option (AV × Heap × Fp)) : Prop :=
  (fp = .no → H' = H ∧ ∀ H2, f H2 = some (v, H2, .no)) ∧ (∀ b, fp = .rd b → H' = H ∧ ∀ H2, blk H2 b = blk H b → f H2 = some (v, H2, .rd b)) ∧ (fp = .ra → H' = H) ∧
  (∀ n bs, fp = .wr n bs → ∀ b, b < n → b ∉ bs → blk H' b = blk H b)
theorem FpOK.wr0 {H H' : Heap} {v : AV} {f : Heap → Option (AV × Heap × Fp)} : FpOK (.wr 0 []) H H' v f :=
  ⟨(fun h => by cases h), (fun b h => by cases h), (fun h => by cases h), fun n bs h b hb => by cases h; omega⟩
theorem FpOK.no {H : Heap} {v : AV} {f : Heap → Option (AV × Heap × Fp)} (h : ∀ H2, f H2 = some (v, H2, .no)) : FpOK .no H H v f :=
  ⟨fun _ => ⟨rfl, h⟩, (fun b h => by cases h), fun _ => rfl, (fun n bs h => by cases h)⟩
theorem FpOK.ra {H : Heap} {v : AV} {f : Heap → Option (AV × Heap × Fp)} : FpOK .ra H H v f :=
  ⟨(fun h => by cases h), (fun b h => by cases h), fun _ => rfl, (fun n bs h => by cases h)⟩
theorem FpOK.rd {H : Heap} {v : AV} {b : Nat} {f : Heap → Option (AV × Heap × Fp)} (h : ∀ H2, blk H2 b = blk H b → f H2 = some (v, H2, .rd b)) : FpOK (.rd b) H H v f :=
  ⟨(fun h => by cases h), (fun b' hb => by cases hb; exact ⟨rfl, h⟩), fun _ => rfl, (fun n bs h => by cases h)⟩
theorem FpOK.wr {H H' : Heap} {v : AV} {n : Nat} {bs : List Nat} {f : Heap → Option (AV × Heap × Fp)} (h : ∀ b, b < n → b ∉ bs → blk H' b = blk H b) : FpOK (.wr n bs) H H' v f :=
  ⟨(fun h => by cases h), (fun b h => by cases h), (fun h => by cases h), fun n' bs' e => by cases e; exact h⟩
theorem doCall_fp {f : Nat} {args : List AV} {H H' : Heap} {v : AV} {fl : Fp} (h : doCall c call f args H = some (v, H', fl)) : FpOK fl H H' v (doCall c call f args) := by
  unfold doCall at h
  split at h
  · cases h
  · split at h
    · simp at h; obtain ⟨_, _, rfl⟩ := h; exact .wr0
    · cases h
  · split at h
    · split at h
      · split at h
        · simp at h; obtain ⟨_, _, rfl⟩ := h; exact .wr0
        · cases h
      · cases h
    · cases h
  · rename_i q hf
    split at h
    · rename_i hp
      split at h
      · rename_i r H1 hr
        split at h
        · rename_i r' bs hz
          simp at h
          obtain ⟨rfl, rfl, rfl⟩ := h
          exact .no fun H2 => by simp [doCall, hf, hp, hr, hz]
        · cases h
      · cases h
    · split at h
      · split at h
        · split at h
          · split at h
            · simp at h; obtain ⟨_, rfl, rfl⟩ := h; exact .ra
            · simp at h; obtain ⟨_, _, rfl⟩ := h; exact .wr0
          · cases h
        · cases h
      · cases h
theorem aOp_fp {env : Env} {H H' : Heap} {kd : Kd} {v : AV} {fl : Fp} (h : aOp c call env H kd = some (v, H', fl)) : FpOK fl H H' v (fun H2 => aOp c call env H2 kd) := by
  have app : ∀ {T : Heap} (b : Nat), b < H.length → b ∉ ([] : List Nat) → blk (H ++ T) b = blk H b := fun b hb _ => blk_append hb
  have st : ∀ {x : Blk} {b0 : Nat} (b : Nat), b < H.length → b ∉ [b0] → blk (H.set b0 x) b = blk H b := fun b _ hn => blk_set_ne (by simp at hn; exact fun e => hn e.symm)
  have mv : ∀ {x : Blk} {T : Heap} {b0 : Nat} (b : Nat), b < H.length → b ∉ [b0] → blk (H.set b0 x ++ T) b = blk H b := fun b hb hn => by
    rw [blk_append (by simpa using hb)]; exact blk_set_ne (by simp at hn; exact fun e => hn e.symm)
  have same : ∀ (b : Nat), b < H.length → b ∉ ([] : List Nat) → blk H b = blk H b := fun _ _ _ => rfl
  cases kd
  case call f xs => simp only [aOp] at h ⊢; exact doCall_fp h
  case callv x xs =>
    simp only [aOp] at h ⊢
    split at h
    · exact doCall_fp h
    · cases h
  case ld ag x =>
    simp only [aOp] at h ⊢
    split at h
    · rename_i cs hx
      split at h
      · rename_i u hu
        simp at h
        obtain ⟨rfl, rfl, rfl⟩ := h
        exact .no fun H2 => by simp [hu]
      · cases h
    · rename_i b off hx
      split at h
      · rename_i cs hb
        split at h
        · rename_i u hu
          simp at h
          obtain ⟨rfl, rfl, rfl⟩ := h
          exact .rd fun H2 h2 => by simp [h2, hb, hu]
        · cases h
      · cases h
    · cases h
  all_goals simp only [aOp] at h ⊢
  all_goals
    (repeat' split at h)
    all_goals first
      | (cases h; done)
      | (simp at h; obtain ⟨rfl, rfl, rfl⟩ := h; first | exact .wr app | exact .wr st | exact .wr mv | exact .wr same | (refine .no fun H2 => ?_; simp_all; done))
theorem aOp_pure {env : Env} {H H' : Heap} {kd : Kd} {v : AV} {fl : Fp} (h : aOp c call env H kd = some (v, H', fl)) (hp : kd.pure = true) : fl = .no := by
  cases kd <;> simp [Kd.pure] at hp <;> simp only [aOp] at h
  all_goals
    (repeat' split at h)
    all_goals first
      | (cases h; done)
      | (simp at h; obtain ⟨rfl, rfl, rfl⟩ := h; rfl)

/-- What one operation yields: its value, the heap, the flag. -/
def stepV (c : Cfg) (call : Nat → List AV → Heap → Option (AV × Heap)) (env : Env) (H : Heap) (o : O) : Option (AV × Heap × Fp) :=
  match o.guard with
  | none => aOp c call env H o.kd
  | some (g, want) => match get env g with
    | .bool b => if b = want then aOp c call env H o.kd else some (.undef, H, .no)
    | .undef => some (.undef, H, .no)
    | _ => none
theorem stepO_eq {s s' : St} {q : O} {f : Fp} : stepO c call s q = some (s', f) ↔ ∃ v H', stepV c call s.env s.H q = some (v, H', f) ∧ s' = ⟨putd s.env q.dst v, H'⟩ := by
  have key : ∀ (r : Option (AV × Heap × Fp)), (match r with
      | some (v, H, fl) => some ((⟨putd s.env q.dst v, H⟩ : St), fl)
      | none => none) = some (s', f) ↔ ∃ v H', r = some (v, H', f) ∧ s' = ⟨putd s.env q.dst v, H'⟩ := by
    intro r
    cases r with
    | none => simp
    | some x =>
      obtain ⟨v, H', fl⟩ := x
      constructor
      · intro h
        simp at h
        obtain ⟨rfl, rfl⟩ := h
        exact ⟨v, H', rfl, rfl⟩
      · rintro ⟨v', H'', h, rfl⟩
        simp at h
        obtain ⟨rfl, rfl, rfl⟩ := h
        rfl
  have key2 : some ((⟨putd s.env q.dst .undef, s.H⟩ : St), .no) = some (s', f) ↔ ∃ v H', (some (AV.undef, s.H, .no) : Option (AV × Heap × Fp)) = some (v, H', f) ∧ s' = ⟨putd s.env q.dst v, H'⟩ := key (some (AV.undef, s.H, .no))
  have key3 : (none : Option (St × Fp)) = some (s', f) ↔ ∃ v H', (none : Option (AV × Heap × Fp)) = some (v, H', f) ∧ s' = ⟨putd s.env q.dst v, H'⟩ := key none
  unfold stepO stepV
  cases hg : q.guard with
  | none => exact key _
  | some p =>
    obtain ⟨g, want⟩ := p
    simp only
    cases hb : get s.env g <;> simp only <;> first | exact key3 | exact key2 | skip
    split
    · exact key _
    · exact key2
theorem stepV_congr {e1 e2 : Env} {H : Heap} {q : O} (h : ∀ i ∈ q.reads, get e1 i = get e2 i) : stepV c call e1 H q = stepV c call e2 H q := by
  unfold stepV
  unfold O.reads at h
  simp only [List.mem_append] at h
  cases hg : q.guard with
  | none => simp only [hg] at h ⊢; exact aOp_congr fun i hi => h i (.inr hi)
  | some p =>
    obtain ⟨g, want⟩ := p
    simp only [hg] at h ⊢
    rw [h g (.inl (by simp)), aOp_congr fun i hi => h i (.inr hi)]
theorem stepV_fp {env : Env} {H H' : Heap} {q : O} {v : AV} {fl : Fp} (h : stepV c call env H q = some (v, H', fl)) : FpOK fl H H' v (fun H2 => stepV c call env H2 q) := by
  unfold stepV at h ⊢
  cases hg : q.guard with
  | none => simp only [hg] at h ⊢; exact aOp_fp h
  | some p =>
    obtain ⟨g, want⟩ := p
    simp only [hg] at h ⊢
    split at h
    · split at h
      · rename_i hbw; simp only [hbw, if_true]; exact aOp_fp h
      · rename_i hbw; simp only [hbw, if_false]; simp at h; obtain ⟨rfl, rfl, rfl⟩ := h; exact .no fun _ => rfl
    · simp at h; obtain ⟨rfl, rfl, rfl⟩ := h; exact .no fun _ => rfl
    · cases h
theorem stepV_pure {env : Env} {H H' : Heap} {q : O} {v : AV} {fl : Fp} (h : stepV c call env H q = some (v, H', fl)) (hp : q.kd.pure = true) : fl = .no := by
  unfold stepV at h
  cases hg : q.guard with
  | none => simp only [hg] at h; exact aOp_pure h hp
  | some p =>
    obtain ⟨g, want⟩ := p
    simp only [hg] at h
    split at h
    · split at h
      · exact aOp_pure h hp
      · simp at h; obtain ⟨rfl, rfl, rfl⟩ := h; rfl
    · simp at h; obtain ⟨rfl, rfl, rfl⟩ := h; rfl
    · cases h
theorem mem_iff {i : Nat} : ∀ {l : List Nat}, mem i l = true ↔ i ∈ l
  | [] => by simp [mem]
  | j :: r => by
    unfold mem
    split
    · rename_i h; simp [h]
    · rename_i h; rw [mem_iff]; simp [h]
theorem get_putd_ne {env : Env} {d : Option Nat} {v : AV} {i : Nat} (h : d ≠ some i) : get (putd env d v) i = get env i := by
  cases d with
  | none => rfl
  | some d => simp only [putd, get_put]; rw [if_neg fun e => h (by rw [e])]
theorem commute {env : Env} {H H1 H2 : Heap} {x y : O} {v1 v2 : AV} {f1 f2 : Fp} (hx : stepV c call env H x = some (v1, H1, f1)) (hy : stepV c call (putd env x.dst v1) H1 y = some (v2, H2, f2))
    (hap : apartO x y = true) (hf : f1.ok f2 = true) :
    ∃ H2', stepV c call env H y = some (v2, H2', f2) ∧ stepV c call (putd env y.dst v2) H2' x = some (v1, H2, f1) ∧ ∀ i, get (putd (putd env x.dst v1) y.dst v2) i = get (putd (putd env y.dst v2) x.dst v1) i := by
  have a1 : ∀ d, x.dst = some d → d ∉ y.reads ∧ y.dst ≠ some d := by
    intro d hd
    simp only [apartO, hd, Bool.and_eq_true, Bool.not_eq_true', decide_eq_true_eq] at hap
    refine ⟨fun h => ?_, hap.1.2⟩
    have := mem_iff.2 h
    rw [hap.1.1] at this
    cases this
  have a2 : ∀ d, y.dst = some d → d ∉ x.reads := by
    intro d hd h
    simp only [apartO, hd, Bool.and_eq_true, Bool.not_eq_true'] at hap
    have := mem_iff.2 h
    rw [hap.2] at this
    cases this
  have cy : ∀ Hq, stepV c call (putd env x.dst v1) Hq y = stepV c call env Hq y := fun Hq => stepV_congr fun i hi => get_putd_ne fun e => (a1 i e).1 hi
  have cx : ∀ Hq, stepV c call (putd env y.dst v2) Hq x = stepV c call env Hq x := fun Hq => stepV_congr fun i hi => get_putd_ne fun e => a2 i e hi
  have he : ∀ i, get (putd (putd env x.dst v1) y.dst v2) i = get (putd (putd env y.dst v2) x.dst v1) i := by
    intro i
    by_cases h1 : x.dst = some i
    · have h2 := (a1 i h1).2
      rw [get_putd_ne h2, h1]
      simp [putd, get_put]
    · rw [get_putd_ne (env := putd env y.dst v2) h1]
      by_cases h2 : y.dst = some i
      · rw [h2]; simp [putd, get_put]
      · rw [get_putd_ne h2, get_putd_ne h2, get_putd_ne h1]
  rw [cy] at hy
  obtain ⟨g0, g1, g2, g3⟩ := stepV_fp hx
  obtain ⟨k0, k1, k2, k3⟩ := stepV_fp hy
  have nm : ∀ {b : Nat} {bs : List Nat}, mem b bs = false → b ∉ bs := fun h hm => by rw [mem_iff.2 hm] at h; cases h
  cases f1 with
  | no =>
    obtain ⟨rfl, h0⟩ := g0 rfl
    exact ⟨H2, hy, by rw [cx]; exact h0 H2, he⟩
  | rd b =>
    obtain ⟨rfl, h0⟩ := g1 b rfl
    cases f2 with
    | no => obtain ⟨rfl, _⟩ := k0 rfl; exact ⟨_, hy, by rw [cx]; exact hx, he⟩
    | rd b' => obtain ⟨rfl, _⟩ := k1 b' rfl; exact ⟨_, hy, by rw [cx]; exact hx, he⟩
    | ra => obtain rfl := k2 rfl; exact ⟨_, hy, by rw [cx]; exact hx, he⟩
    | wr n bs =>
      simp only [Fp.ok, Bool.and_eq_true, decide_eq_true_eq, Bool.not_eq_true'] at hf
      exact ⟨H2, hy, by rw [cx]; exact h0 H2 (k3 n bs rfl b hf.1 (nm hf.2)), he⟩
  | ra =>
    obtain rfl := g2 rfl
    cases f2 with
    | no => obtain ⟨rfl, _⟩ := k0 rfl; exact ⟨_, hy, by rw [cx]; exact hx, he⟩
    | rd b' => obtain ⟨rfl, _⟩ := k1 b' rfl; exact ⟨_, hy, by rw [cx]; exact hx, he⟩
    | ra => obtain rfl := k2 rfl; exact ⟨_, hy, by rw [cx]; exact hx, he⟩
    | wr n bs => simp [Fp.ok] at hf
  | wr n bs =>
    cases f2 with
    | no => obtain ⟨rfl, h0⟩ := k0 rfl; exact ⟨H, h0 H, by rw [cx]; exact hx, he⟩
    | rd b =>
      obtain ⟨rfl, h0⟩ := k1 b rfl
      simp only [Fp.ok, Bool.and_eq_true, decide_eq_true_eq, Bool.not_eq_true'] at hf
      exact ⟨H, h0 H (g3 n bs rfl b hf.1 (nm hf.2)).symm, by rw [cx]; exact hx, he⟩
    | ra => simp [Fp.ok] at hf
    | wr n' bs' => simp [Fp.ok] at hf

abbrev Ent := Nat × Oper × O × Fp
def RunR (c : Cfg) (call : Nat → List AV → Heap → Option (AV × Heap)) : List Ent → Env → Heap → Env → Heap → Prop
  | [], e, H, e', H' => (∀ i, get e i = get e' i) ∧ H = H'
  | p :: r, e, H, e', H' => ∃ v H1, stepV c call e H p.2.2.1 = some (v, H1, p.2.2.2) ∧ RunR c call r (putd e p.2.2.1.dst v) H1 e' H'
theorem RunR.congr : ∀ {R : List Ent} {e1 e2 : Env} {H : Heap} {e' : Env} {H' : Heap}, (∀ i, get e1 i = get e2 i) → RunR c call R e1 H e' H' → RunR c call R e2 H e' H'
  | [], e1, e2, H, e', H', h, hr => ⟨fun i => (h i).symm.trans (hr.1 i), hr.2⟩
  | p :: r, e1, e2, H, e', H', h, ⟨v, H1, h1, h2⟩ => by
    refine ⟨v, H1, by rw [← stepV_congr fun i _ => h i]; exact h1, RunR.congr (fun i => ?_) h2⟩
    cases hd : p.2.2.1.dst with
    | none => exact h i
    | some d => simp only [putd, get_put]; rw [h i]
theorem RunR.bubble {x : Ent} : ∀ {R1 R2 : List Ent} {e : Env} {H : Heap} {e' : Env} {H' : Heap}, (∀ p ∈ R1, apartO p.2.2.1 x.2.2.1 = true ∧ p.2.2.2.ok x.2.2.2 = true) → RunR c call (R1 ++ x :: R2) e H e' H' → RunR c call (x :: (R1 ++ R2)) e H e' H'
  | [], R2, e, H, e', H', _, hr => hr
  | p :: R1, R2, e, H, e', H', h, ⟨v, H1, h1, h2⟩ => by
    obtain ⟨v2, H2, h3, h4⟩ := RunR.bubble (fun q hq => h q (by simp [hq])) h2
    obtain ⟨hap, hf⟩ := h p (by simp)
    obtain ⟨H2', k1, k2, k3⟩ := commute h1 h3 hap hf
    exact ⟨v2, H2', k1, v, H2, k2, h4.congr k3⟩

/-- i is waited for by operation j, directly or through others. -/
inductive Anc (ops : Array Oper) (i : Nat) : Nat → Prop
  | one {j : Nat} {o : Oper} (ho : ops[j]? = some o) (h : i ∈ direct o) : Anc ops i j
  | via {j k : Nat} {o : Oper} (ho : ops[j]? = some o) (h : k ∈ direct o) (ha : Anc ops i k) : Anc ops i j
theorem mem_direct {o : Oper} {i : Nat} : i ∈ direct o ↔ ∃ e ∈ o.after, Region.binds .any e = true ∧ e.on = i := by
  unfold direct
  simp only [List.mem_map, List.mem_filter, Array.mem_toList_iff]
  constructor
  · rintro ⟨e, ⟨h1, h2⟩, h3⟩; exact ⟨e, h1, h2, h3⟩
  · rintro ⟨e, h1, h2, h3⟩; exact ⟨e, ⟨h1, h2⟩, h3⟩
/-- What is listed has all that it waits for listed. -/
def Closed (ops : Array Oper) (listed : Array Bool) : Prop := ∀ j o, ops[j]? = some o → listed.getD j false = true → ∀ i ∈ direct o, listed.getD i false = true
theorem Closed.anc {ops : Array Oper} {listed : Array Bool} (h : Closed ops listed) {i j : Nat} (ha : Anc ops i j) : ∀ o, ops[j]? = some o → (∀ k ∈ direct o, listed.getD k false = true) → listed.getD i false = true := by
  induction ha with
  | one ho hm => intro o ho' hd; rw [ho] at ho'; cases ho'; exact hd _ hm
  | via ho hm ha ih =>
    intro o ho' hd
    rw [ho] at ho'
    cases ho'
    have hk := hd _ hm
    cases ha with
    | one ho2 hm2 => exact h _ _ ho2 hk _ hm2
    | via ho2 hm2 ha2 => exact ih _ ho2 fun l hl => h _ _ ho2 hk l hl
theorem any_ok (hok : CfgOK P c) (hcall : CallOK P c call) {X : Nat → Prop} {N : Nat} {ops : Array Oper} {Q : Exit → Act → World → Prop} {sf : St} :
    ∀ (fuel : Nat) (R : List Ent) (listed : Array Bool) (a : Act) (w : World) (φ : Phi) (s : St), R.length = fuel → (∀ i, listed.getD i true = false ↔ ∃ p ∈ R, p.1 = i) → listed.size = ops.size →
      Closed ops listed → (∀ p ∈ R, ops[p.1]? = some p.2.1 ∧ chkO P N ops p.2.1 p.2.2.1 = true ∧ ∀ e ∈ p.2.1.after, Region.binds .any e = true → e.on < p.1) →
      R.Pairwise (fun p q => p.1 < q.1 ∧ (Anc ops p.1 q.1 ∨ (apartO p.2.2.1 q.2.2.1 = true ∧ p.2.2.2.ok q.2.2.2 = true))) → RunR c call R s.env s.H sf.env sf.H → SRel X φ w s a N → GlOK c X φ w →
      (∀ a' w' φ', SRel X φ' w' sf a' N → Adv φ w φ' w' → Q .normal a' w') → wpAny P .any ops Q fuel listed a w := by
  have fin : ∀ {a : Act} {w : World} {φ : Phi} {s : St}, RunR c call [] s.env s.H sf.env sf.H → SRel X φ w s a N → (∀ a' w' φ', SRel X φ' w' sf a' N → Adv φ w φ' w' → Q .normal a' w') → Q .normal a w := by
    intro a w φ s hr hs hQ
    refine hQ a w φ ⟨fun i => ?_, by rw [← hr.2]; exact hs.heap, hs.defers, hs.size⟩ (.refl _ _)
    rw [← hr.1 i]
    exact hs.env i
  intro fuel
  induction fuel with
  | zero =>
    intro R listed a w φ s hl hls _ _ _ _ hr hs hg hQ
    have hR : R = [] := List.eq_nil_of_length_eq_zero hl
    subst hR
    refine ⟨?_, fin hr hs hQ⟩
    rw [List.eq_nil_iff_forall_not_mem]
    intro i hi
    obtain ⟨h1, _⟩ := mem_ready.1 hi
    obtain ⟨p, hp, _⟩ := (hls i).1 h1
    cases hp
  | succ fuel ih =>
    intro R listed a w φ s hl hls hsz hcl hops hpw hr hs hg hQ
    refine ⟨fun hnil => ?_, fun i hi => ?_⟩
    · cases R with
      | nil => simp at hl
      | cons p r =>
        exfalso
        obtain ⟨h1, h2, h3⟩ := hops p (by simp)
        have : p.1 ∈ Region.ready .any ops listed := by
          refine mem_ready.2 ⟨(hls p.1).2 ⟨p, by simp, rfl⟩, p.2.1, h1, fun e he hb => ?_⟩
          have hlt := h3 e he hb
          cases hv : listed.getD e.on false with
          | true => rfl
          | false =>
            exfalso
            have hlt2 : e.on < listed.size := by
              rw [hsz]
              have := alt_of_getElem? h1
              omega
            have hv2 : listed.getD e.on true = false := by
              simp [Array.getD_eq_getD_getElem?, hlt2] at hv ⊢
              exact hv
            obtain ⟨q, hq, hq1⟩ := (hls e.on).1 hv2
            rcases List.mem_cons.1 hq with hq | hq
            · subst hq; omega
            · have := (List.rel_of_pairwise_cons hpw hq).1
              omega
        rw [hnil] at this
        cases this
    · obtain ⟨hun, o, ho, hall⟩ := mem_ready.1 hi
      obtain ⟨x, hx, hxi⟩ := (hls i).1 hun
      subst hxi
      obtain ⟨R1, R2, rfl⟩ := List.append_of_mem hx
      obtain ⟨h1, h2, h3⟩ := hops x (by simp)
      rw [h1] at ho
      simp at ho
      subst ho
      have hpw' := List.pairwise_append.1 hpw
      have hcomm : ∀ p ∈ R1, apartO p.2.2.1 x.2.2.1 = true ∧ p.2.2.2.ok x.2.2.2 = true := by
        intro p hp
        obtain ⟨_, hrel⟩ := hpw'.2.2 p hp x (by simp)
        rcases hrel with hw | hw
        · exfalso
          have := hcl.anc hw x.2.1 h1 fun k hk => by
            obtain ⟨e, he, hb, heq⟩ := mem_direct.1 hk
            rw [← heq]; exact hall e he hb
          have hf := (hls p.1).2 ⟨p, by simp [hp], rfl⟩
          have hlt : p.1 < listed.size := by
            rw [hsz]
            exact alt_of_getElem? (hops p (by simp [hp])).1
          simp [Array.getD_eq_getD_getElem?, hlt] at this hf
          rw [this] at hf
          cases hf
        · exact hw
      obtain ⟨v, H1, k1, k2⟩ := hr.bubble hcomm
      unfold wpOp
      rw [h1]
      refine step_ok hok hcall h2 (stepO_eq.2 ⟨v, H1, k1, rfl⟩) hs hg fun a' w' φ' hs' hadv => ?_
      refine ih (R1 ++ R2) _ a' w' φ' _ (by simp at hl ⊢; omega) (fun j => ?_) (by simpa using hsz) (fun j oj hj hlj i hi => ?_) (fun p hp => hops p (by rcases List.mem_append.1 hp with h | h <;> simp [h])) ?_ k2 hs' (hg.adv hadv)
        fun a'' w'' φ'' h'' k'' => hQ a'' w'' φ'' h'' (hadv.trans k'')
      · have hxlt : x.1 < listed.size := by rw [hsz]; exact alt_of_getElem? h1
        by_cases hj : j = x.1
        · subst hj
          simp only [Array.getD_eq_getD_getElem?, Array.getElem?_setIfInBounds_self_of_lt hxlt, Option.getD_some]
          refine ⟨(fun h => by cases h), fun ⟨p, hp, hpx⟩ => ?_⟩
          exfalso
          rcases List.mem_append.1 hp with h | h
          · have := (hpw'.2.2 p h x (by simp)).1; omega
          · have := (List.rel_of_pairwise_cons hpw'.2.1 h).1; omega
        · have hne : x.1 ≠ j := fun e => hj e.symm
          rw [Array.getD_eq_getD_getElem?, Array.getElem?_setIfInBounds_ne hne, ← Array.getD_eq_getD_getElem?, hls j]
          constructor
          · rintro ⟨p, hp, hpj⟩
            refine ⟨p, ?_, hpj⟩
            simp at hp ⊢
            rcases hp with h | h | h
            · exact .inl h
            · subst h; exact absurd hpj.symm hj
            · exact .inr h
          · rintro ⟨p, hp, hpj⟩
            refine ⟨p, ?_, hpj⟩
            simp at hp ⊢
            rcases hp with h | h
            · exact .inl h
            · exact .inr (.inr h)
      · have mono : ∀ k, listed.getD k false = true → (listed.setIfInBounds x.1 true).getD k false = true := by
          intro k hk
          by_cases hkx : x.1 = k
          · subst hkx
            have hlt : x.1 < listed.size := by rw [hsz]; exact alt_of_getElem? h1
            simp [Array.getD_eq_getD_getElem?, hlt]
          · rw [Array.getD_eq_getD_getElem?, Array.getElem?_setIfInBounds_ne hkx, ← Array.getD_eq_getD_getElem?]; exact hk
        by_cases hjx : x.1 = j
        · subst hjx
          rw [h1] at hj
          cases hj
          obtain ⟨e, he, hb, heq⟩ := mem_direct.1 hi
          exact mono i (by rw [← heq]; exact hall e he hb)
        · refine mono i (hcl j oj hj ?_ i hi)
          rw [Array.getD_eq_getD_getElem?, Array.getElem?_setIfInBounds_ne hjx, ← Array.getD_eq_getD_getElem?] at hlj
          exact hlj
      · refine List.pairwise_append.2 ⟨hpw'.1, (List.pairwise_cons.1 hpw'.2.1).2, fun p hp q hq => hpw'.2.2 p hp q (by simp [hq])⟩

def mkR : Nat → List Oper → List O → List Fp → List Ent
  | k, o :: r, q :: s, f :: t => (k, o, q, f) :: mkR (k + 1) r s t
  | _, _, _, _ => []
theorem mkR_get : ∀ (k : Nat) (os : List Oper) (qs : List O) (fs : List Fp) (j : Nat) (p : Ent), (mkR k os qs fs)[j]? = some p → p.1 = k + j ∧ os[j]? = some p.2.1 ∧ qs[j]? = some p.2.2.1 ∧ fs[j]? = some p.2.2.2
  | k, [], qs, fs, j, p, h => by simp [mkR] at h
  | k, _ :: _, [], fs, j, p, h => by simp [mkR] at h
  | k, _ :: _, _ :: _, [], j, p, h => by simp [mkR] at h
  | k, o :: r, q :: s, f :: t, j, p, h => by
    simp only [mkR] at h
    cases j with
    | zero => simp at h; subst h; exact ⟨rfl, rfl, rfl, rfl⟩
    | succ j =>
      simp at h
      obtain ⟨h1, h2, h3, h4⟩ := mkR_get (k + 1) r s t j p h
      exact ⟨by omega, by simpa using h2, by simpa using h3, by simpa using h4⟩
theorem mkR_length : ∀ (k : Nat) (os : List Oper) (qs : List O) (fs : List Fp), os.length = qs.length → qs.length = fs.length → (mkR k os qs fs).length = os.length
  | k, [], [], [], _, _ => rfl
  | k, o :: r, q :: s, f :: t, h1, h2 => by simp [mkR]; exact mkR_length (k + 1) r s t (by simpa using h1) (by simpa using h2)
  | _, [], _ :: _, _, h, _ => by simp at h
  | _, _ :: _, [], _, h, _ => by simp at h
  | _, [], [], _ :: _, _, h => by simp at h
  | _, _ :: _, _ :: _, [], _, h => by simp at h
theorem aOps_run : ∀ (k : Nat) (os : List Oper) (qs : List O) (s s' : St) (fls : List Fp), os.length = qs.length → aOps c call qs s = some (s', fls) → qs.length = fls.length ∧ RunR c call (mkR k os qs fls) s.env s.H s'.env s'.H
  | k, [], [], s, s', fls, _, h => by simp [aOps] at h; obtain ⟨rfl, rfl⟩ := h; exact ⟨rfl, fun _ => rfl, rfl⟩
  | k, [], _ :: _, _, _, _, hl, _ => by simp at hl
  | k, _ :: _, [], _, _, _, hl, _ => by simp at hl
  | k, o :: r, q :: qs, s, s', fls, hl, h => by
    simp only [aOps] at h
    split at h
    case h_2 => cases h
    rename_i s1 fl1 h1
    split at h
    case h_2 => cases h
    rename_i s2 fl2 h2
    simp at h
    obtain ⟨rfl, rfl⟩ := h
    obtain ⟨v, H', h3, rfl⟩ := stepO_eq.1 h1
    obtain ⟨h4, h5⟩ := aOps_run (k + 1) r qs _ s2 fl2 (by simpa using hl) h2
    exact ⟨by simp [h4], v, H', h3, h5⟩
theorem aOps_pure : ∀ {qs : List O} {s s' : St} {fls : List Fp}, aOps c call qs s = some (s', fls) → ∀ (j : Nat) (q : O) (f : Fp), qs[j]? = some q → fls[j]? = some f → q.kd.pure = true → f = .no
  | [], _, _, _, _, j, q, f, hq, _, _ => by simp at hq
  | x :: r, s, s', fls, h, j, q, f, hq, hf, hp => by
    simp only [aOps] at h
    split at h
    case h_2 => cases h
    rename_i s1 fl1 h1
    split at h
    case h_2 => cases h
    rename_i s2 fl2 h2
    simp at h
    obtain ⟨rfl, rfl⟩ := h
    cases j with
    | zero =>
      simp at hq hf
      subst hq; subst hf
      obtain ⟨v, H', h3, _⟩ := stepO_eq.1 h1
      exact stepV_pure h3 hp
    | succ j => simp at hq hf; exact aOps_pure h2 j q f hq hf hp
theorem chkOs_get {N : Nat} {ops : Array Oper} : ∀ {l : List Oper} {qs : List O}, chkOs P N ops l qs = true → l.length = qs.length ∧ ∀ (j : Nat) (o : Oper) (q : O), l[j]? = some o → qs[j]? = some q → chkO P N ops o q = true
  | [], [], _ => ⟨rfl, fun j o q h => by simp at h⟩
  | [], _ :: _, h => by simp [chkOs] at h
  | _ :: _, [], h => by simp [chkOs] at h
  | o :: r, q :: s, h => by
    simp only [chkOs, Bool.and_eq_true] at h
    obtain ⟨hl, hm⟩ := chkOs_get h.2
    refine ⟨by simp [hl], fun j o' q' h1 h2 => ?_⟩
    cases j with
    | zero => simp at h1 h2; subst h1; subst h2; exact h.1
    | succ j => simp at h1 h2; exact hm j o' q' h1 h2
theorem chkBefore_get {un : List (Nat × Nat)} {j : Nat} {ys : List Nat} {q : O} : ∀ {k : Nat} {l : List O}, chkBefore un j ys q k l = true → ∀ (i : Nat) (x : O), l[i]? = some x → chkPair un (k + i) j x ys q = true
  | k, [], _, i, x, h => by simp at h
  | k, z :: r, hc, i, x, h => by
    simp only [chkBefore, Bool.and_eq_true] at hc
    cases i with
    | zero => simp at h; subst h; exact hc.1
    | succ i => simp at h; have := chkBefore_get hc.2 i x h; rwa [show k + 1 + i = k + (i + 1) by omega] at this
/-- The lists of what is waited for are right. -/
def AncOK (ops : Array Oper) (anc : List (List Nat)) : Prop := ∀ j l, anc[j]? = some l → ∀ i ∈ l, Anc ops i j
theorem dedup_sub {i : Nat} : ∀ {l : List Nat}, i ∈ dedup l → i ∈ l
  | [], h => by simp [dedup] at h
  | x :: r, h => by
    unfold dedup at h
    split at h
    · exact List.mem_cons_of_mem _ (dedup_sub h)
    · rcases List.mem_cons.1 h with h | h
      · subst h; simp
      · exact List.mem_cons_of_mem _ (dedup_sub h)
theorem ancOf_ok {ops : Array Oper} {anc : List (List Nat)} (h : AncOK ops anc) {j : Nat} {o : Oper} (ho : ops[j]? = some o) : ∀ i ∈ ancOf anc o, Anc ops i j := by
  intro i hi
  unfold ancOf at hi
  rcases List.mem_append.1 (dedup_sub hi) with hi | hi
  · exact .one ho hi
  · obtain ⟨k, hk, hik⟩ := List.mem_flatMap.1 hi
    refine .via ho (dedup_sub hk) ?_
    rw [List.getD_eq_getElem?_getD] at hik
    cases hl : anc[k]? with
    | none => rw [hl] at hik; simp at hik
    | some l => rw [hl] at hik; exact h k l hl i hik
theorem chkOrder_get {un : List (Nat × Nat)} {ops : Array Oper} : ∀ {ys : List Oper} {qs seen : List O} {anc : List (List Nat)}, chkOrder un anc seen ys qs = true → AncOK ops anc → anc.length = seen.length → (∀ j, ys[j]? = ops[seen.length + j]?) → ∀ (j : Nat) (y : Oper) (q : O), ys[j]? = some y → qs[j]? = some q →
    (∀ e ∈ y.after, Region.binds .any e = true → e.on < seen.length + j) ∧ ∀ (i : Nat) (x : O), (seen ++ qs)[i]? = some x → i < seen.length + j → Anc ops i (seen.length + j) ∨ (apartO x q = true ∧ (x.kd.pure = true ∨ q.kd.pure = true ∨ pairIn i (seen.length + j) un = true))
  | [], _, _, _, _, _, _, _, j, y, q, h, _ => by simp at h
  | _ :: _, [], _, _, _, _, _, _, j, y, q, _, h => by simp at h
  | z :: r, p :: s, seen, anc, hc, hanc, hal, hys, j, y, q, h1, h2 => by
    simp only [chkOrder, Bool.and_eq_true] at hc
    obtain ⟨⟨c1, c2⟩, c3⟩ := hc
    have hz : ops[seen.length]? = some z := by simpa using (hys 0).symm
    cases j with
    | zero =>
      simp at h1 h2
      subst h1; subst h2
      refine ⟨fun e he hb => ?_, fun i x hx hi => ?_⟩
      · have := List.all_eq_true.1 c1 e.on (mem_direct.2 ⟨e, he, hb, rfl⟩)
        simpa using this
      · rw [List.getElem?_append_left (by omega)] at hx
        have := chkBefore_get c2 i x hx
        simp only [chkPair, Nat.zero_add, Bool.or_eq_true, Bool.and_eq_true] at this
        rcases this with h | h
        · exact .inl (ancOf_ok hanc hz i (mem_iff.1 h))
        · right
          refine ⟨h.1, ?_⟩
          rcases h.2 with (h | h) | h
          · exact .inl h
          · exact .inr (.inl h)
          · exact .inr (.inr h)
    | succ j =>
      simp at h1 h2
      have hanc' : AncOK ops (anc ++ [ancOf anc z]) := by
        intro k l hl i hi
        by_cases hk : k < anc.length
        · rw [List.getElem?_append_left hk] at hl; exact hanc k l hl i hi
        · have hk2 := lt_of_getElem? hl
          simp at hk2
          have hke : k = anc.length := by omega
          subst hke
          simp at hl
          subst hl
          rw [hal]
          exact ancOf_ok hanc hz i hi
      obtain ⟨k1, k2⟩ := chkOrder_get c3 hanc' (by simp [hal]) (fun m => by have := hys (m + 1); simp at this ⊢; rw [this]; congr 1; omega) j y q h1 h2
      simp only [List.length_append, List.length_cons, List.length_nil] at k1 k2
      refine ⟨fun e he hb => by have := k1 e he hb; omega, fun i x hx hi => ?_⟩
      have := k2 i x (by simpa using hx) (by omega)
      rwa [show seen.length + (0 + 1) + j = seen.length + (j + 1) by omega] at this
theorem okDraw_get {fls : List Fp} : ∀ {un : List (Nat × Nat)}, okDraw fls un = true → ∀ i j, pairIn i j un = true → (fls.getD i .ra).ok (fls.getD j (.wr 0 [])) = true
  | [], _, i, j, h => by simp [pairIn] at h
  | p :: r, hk, i, j, h => by
    obtain ⟨x, y⟩ := p
    simp only [okDraw, Bool.and_eq_true] at hk
    simp only [pairIn, Bool.or_eq_true, Bool.and_eq_true, decide_eq_true_eq] at h
    rcases h with ⟨rfl, rfl⟩ | h
    · exact hk.1
    · exact okDraw_get hk.2 i j h

/-- A region that draws its order. -/
theorem draw_ok (hok : CfgOK P c) (hcall : CallOK P c call) {X : Nat → Prop} {N : Nat} {ops : Array Oper} {os : List O} {un : List (Nat × Nat)} {Q : Exit → Act → World → Prop} {s s' : St} {fls : List Fp} {a : Act} {w : World} {φ : Phi} {id : Nat}
    (hc : chkOs P N ops ops.toList os = true) (ho : chkOrder un [] [] ops.toList os = true) (hs : aOps c call os s = some (s', fls)) (hd : okDraw fls un = true) (hr : SRel X φ w s a N) (hg : GlOK c X φ w)
    (hQ : ∀ a' w' φ', SRel X φ' w' s' a' N → Adv φ w φ' w' → Q .normal a' w') : (Code.region id ops true).wp P Q a w := by
  obtain ⟨hl, hm⟩ := chkOs_get hc
  obtain ⟨hlf, hrun⟩ := aOps_run 0 ops.toList os s s' fls hl hs
  have hlen := mkR_length 0 ops.toList os fls hl hlf
  have hadv : Adv φ w φ w.drew := .drew _ _
  have hord := chkOrder_get (ops := ops) ho (fun j l hl => by simp at hl) rfl (fun j => by simp)
  have hr' : SRel X φ w.drew s a N := ⟨hr.env.adv hadv, hr.heap.of_same (ψ := []) ⟨rfl, rfl, rfl, Nat.le_refl _, fun g _ h => ⟨rfl, h⟩, .refl _⟩, hr.defers, hr.size⟩
  refine wp_region_any hok.mixed (any_ok hok hcall (X := X) (N := N) (sf := s') ops.size (mkR 0 ops.toList os fls) _ a w.drew φ s (by simpa using hlen) (fun i => ?_) (by simp) (fun j o _ hl => by simp [Array.getD_eq_getD_getElem?, Array.getElem?_replicate] at hl; split at hl <;> simp at hl) (fun p hp => ?_) ?_ hrun hr' (hg.adv hadv)
    fun a' w' φ' h k => hQ a' w' φ' h (hadv.trans k))
  · by_cases hi : i < ops.size
    · simp only [Array.getD_eq_getD_getElem?, Array.getElem?_replicate, hi, if_true, Option.getD_some, true_iff]
      obtain ⟨p, hp⟩ := getElem?_some_of (l := mkR 0 ops.toList os fls) (i := i) (by rw [hlen]; simpa using hi)
      exact ⟨p, List.mem_of_getElem? hp, by have := (mkR_get 0 _ _ _ i p hp).1; omega⟩
    · simp only [Array.getD_eq_getD_getElem?, Array.getElem?_replicate, hi, if_false, Option.getD_none]
      refine ⟨(fun h => by cases h), fun ⟨p, hp, hpi⟩ => ?_⟩
      exfalso
      obtain ⟨j, hj⟩ := List.getElem?_of_mem hp
      have h1 := (mkR_get 0 _ _ _ j p hj).1
      have h2 := lt_of_getElem? hj
      rw [hlen] at h2
      simp at h2
      omega
  · obtain ⟨j, hj⟩ := List.getElem?_of_mem hp
    obtain ⟨h1, h2, h3, h4⟩ := mkR_get 0 _ _ _ j p hj
    have h1' : p.1 = j := by omega
    obtain ⟨k1, _⟩ := hord j p.2.1 p.2.2.1 h2 h3
    refine ⟨by rw [h1']; simpa using h2, hm j _ _ h2 h3, fun e he hb => ?_⟩
    have := k1 e he hb
    simp at this
    omega
  · rw [List.pairwise_iff_getElem]
    intro i j hi hj hij
    obtain ⟨h1, h2, h3, h4⟩ := mkR_get 0 _ _ _ i _ (List.getElem?_eq_getElem hi)
    obtain ⟨k1, k2, k3, k4⟩ := mkR_get 0 _ _ _ j _ (List.getElem?_eq_getElem hj)
    refine ⟨by omega, ?_⟩
    obtain ⟨_, hpair⟩ := hord j _ _ k2 k3
    have := hpair i _ (by simpa using h3) (by simpa using hij)
    simp only [List.length_nil, Nat.zero_add] at this
    rcases this with h | h
    · left; rw [h1, k1]; simpa using h
    · right
      refine ⟨h.1, ?_⟩
      rcases h.2 with h5 | h5 | h5
      · rw [aOps_pure hs i _ _ h3 h4 h5]; rfl
      · rw [aOps_pure hs j _ _ k3 k4 h5]
        cases (mkR 0 ops.toList os fls)[i].2.2.2 <;> rfl
      · have := okDraw_get hd i j h5
        simp only [List.getD_eq_getElem?_getD, h4, k4, Option.getD_some] at this
        exact this
end
end Go.Am
