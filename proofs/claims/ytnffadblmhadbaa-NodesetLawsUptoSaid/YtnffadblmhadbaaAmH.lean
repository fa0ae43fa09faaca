/- append; calls. -/
import Derived.Test.YtnffadblmhadbaaAmG
set_option linter.unusedSimpArgs false
namespace Go.Am
section
variable {P : Program} {c : Cfg} {X : Nat → Prop} {φ : Phi} {w : World} {env : Env} {H : Heap} {a : Act} {o : Oper}

theorem flatCells_get {k : Nat} : ∀ {xs : List AV}, (∀ x ∈ xs, x.cells.length = k) → (flatCells xs).length = xs.length * k ∧
    ∀ (p : Nat) (c : AV), (flatCells xs)[p]? = some c → ∃ i x j, xs[i]? = some x ∧ x.cells[j]? = some c ∧ p = i * k + j
  | [], _ => ⟨by simp [flatCells], fun p c h => by simp [flatCells] at h⟩
  | x :: r, h => by
    obtain ⟨hl, hm⟩ := flatCells_get (xs := r) fun y hy => h y (by simp [hy])
    have hx := h x (by simp)
    refine ⟨by simp [flatCells, hl, hx, Nat.add_mul]; omega, fun p c hc => ?_⟩
    rw [flatCells] at hc
    by_cases hp : p < x.cells.length
    · rw [List.getElem?_append_left hp] at hc
      exact ⟨0, x, p, rfl, hc, by omega⟩
    · rw [List.getElem?_append_right (by omega)] at hc
      obtain ⟨i, y, j, h1, h2, h3⟩ := hm _ c hc
      exact ⟨i + 1, y, j, by simpa using h1, h2, by rw [Nat.add_mul]; omega⟩
theorem sliceCells_ok (hh : HRel X φ w H) {k m : Nat} {x : AV} {news : List AV} {v : Value} (h : sliceCells H k x = some (news, m)) (r : Rep (Rd X φ w) φ x v) :
    ∃ ao cap vs, v = .slice ao m cap ∧ vs.length = m * k ∧ Cs X φ w news vs ∧ (∀ ad, ao = some ad → ∀ (j : Nat) (u : Value), vs[j]? = some u → w.cell? (ad.add j) = some u) ∧ (ao = none → m = 0) := by
  have fin : ∀ {ad : Addr} {cap : Nat} {cs : List AV}, Plc X φ w cs ad → cs.length = m * k → cs = news → v = .slice (some ad) m cap →
      ∃ ao cap vs, v = .slice ao m cap ∧ vs.length = m * k ∧ Cs X φ w news vs ∧ (∀ ad, ao = some ad → ∀ (j : Nat) (u : Value), vs[j]? = some u → w.cell? (ad.add j) = some u) ∧ (ao = none → m = 0) := by
    intro ad cap cs hp hl hn hv
    obtain ⟨vs, h1, h2, h3⟩ := hp.values cs.length (Nat.le_refl _)
    subst hn
    refine ⟨some ad, cap, vs, hv, by omega, ⟨h1.symm, fun i c u hc hu => h3 i c u (by simpa using hc) hu⟩, fun ad' h => ?_, fun h => by cases h⟩
    cases h
    exact h2
  cases x <;> simp only [sliceCells] at h <;> try (cases h; done)
  · simp at h
    obtain ⟨rfl, rfl⟩ := h
    cases r
    exact ⟨none, 0, [], rfl, by simp, ⟨rfl, fun i c u hc => by simp at hc⟩, (fun ad h => by cases h), fun _ => rfl⟩
  · rename_i k' xs
    split at h
    · rename_i hk
      subst hk
      simp at h
      obtain ⟨rfl, rfl⟩ := h
      cases r with
      | lst _ _ _ ad n cap u hn hcap hkc hur hr =>
        obtain ⟨hl, hm⟩ := flatCells_get hkc
        subst hn
        refine fin (ad := ad) (cap := cap) (fun p c hc => ?_) hl rfl rfl
        obtain ⟨i, y, j, h1, h2, rfl⟩ := hm p c hc
        exact ⟨u i j, (hur i j y c h1 h2).2.2, (hr i j y c h1 h2).mono0 φ⟩
      | lst0 => exact ⟨none, 0, [], rfl, by simp, ⟨rfl, fun i c u hc => by simp [flatCells] at hc⟩, (fun ad h => by cases h), fun _ => rfl⟩
    · cases h
  · rename_i k' b off len
    split at h
    case h_2 => cases h
    rename_i cs hcs
    split at h
    case isFalse => cases h
    rename_i hc
    obtain ⟨rfl, hfit⟩ := hc
    simp at h
    obtain ⟨rfl, rfl⟩ := h
    cases r with
    | sl _ _ _ _ _ ad cap hb hc hp =>
      obtain ⟨g, sz, arr, e, h1, h2, h3, h4, h5, h6⟩ := hh.at hcs
      by_cases h0 : len = 0
      · subst h0
        exact ⟨some ad, cap, [], rfl, by simp, ⟨by simp, fun i c u hc => by simp at hc⟩, (fun _ _ j u hu => by simp at hu), (fun h => by cases h)⟩
      · obtain rfl := (hp g sz h1).1 (by omega)
        refine fin (ad := ⟨g, off, none⟩) (cap := cap) (cs := (cs.drop off).take (len * k')) (fun p c hc => ?_) (by simp; omega) rfl rfl
        rw [List.getElem?_take] at hc
        split at hc
        · rw [List.getElem?_drop] at hc
          obtain ⟨u, hu, r⟩ := h6 _ _ hc
          exact ⟨u, by rw [Addr.add_none, cell_of_heap h2]; exact hu, r⟩
        · cases hc

theorem run_append_room' {t ty e e2 : TypeId} {i : TypeInfo} (ht : P.underlying t = some (.slice e)) (hi : P.info? e = some i)
    {g sLen sCap : Nat} {cur : Array Value} (hg : w.heap[g]? = some (.cells cur e2 (0, 0)))
    {a : Addr} {m c : Nat} {news : List Value} (hl : news.length = m * i.size) (hnews : ∀ (j : Nat) (u : Value), news[j]? = some u → w.cell? (a.add j) = some u) (h1 : ∀ u ∈ news, u.oneCell' = true)
    (hroom : sLen + m ≤ sCap) (hfit : sLen * i.size + news.length ≤ cur.size) :
    (Builtin.append_ #[t, t] ty #[.slice (some ⟨g, 0, none⟩) sLen sCap, .slice (some a) m c]).run P w =
      .ok (.slice (some ⟨g, 0, none⟩) (sLen + m) sCap) (w.setRow g (cur.toList.take (sLen * i.size) ++ news ++ cur.toList.drop (sLen * i.size + news.length)).toArray) := by
  have hf := run_firstCells_some (P := P) w i.size m a m c news hl hnews
  have hst := run_storeCells_at P g (sLen * i.size) e2 news 0 cur w hg (by simpa using hfit) h1
  simp only [Nat.add_zero] at hst
  simp [Builtin.append_, run_underlying ht, sizeOf, typeInfo, hi, Builtin.lenOf, hroom, hf, Addr.add_lit, hst]
theorem run_append_zero {t ty e : TypeId} {i : TypeInfo} (hu : P.underlying t = some (.slice e)) (hi : P.info? e = some i) {base ao : Option Addr} {n cap c : Nat} (h : n ≤ cap) :
    (Builtin.append_ #[t, t] ty #[.slice base n cap, .slice ao 0 c]).run P w = .ok (.slice base n cap) w := by
  cases base <;> cases ao <;> simp [Builtin.append_, run_underlying hu, sizeOf, run_info hi, Builtin.lenOf, h, Builtin.firstCells, loadCells, loadCellsFrom, storeCells]
theorem ok_app {ca : Call} {x y : Operand} {t : TypeId} {k : Nat} {x' y' : E} {v : AV} {H' : Heap} {fl : Fp} {call : Nat → List AV → Heap → Option (AV × Heap)} (hop : o.op = .call ca) (hca : ca.callee = .builtin .append) (hargs : ca.args = #[x, y]) (hty : ca.argTypes = #[t, t])
    (hh : HRel X φ w H) (rx : Rep (Rd X φ w) φ (ev c env x') (a.eval x)) (ry : Rep (Rd X φ w) φ (ev c env y') (a.eval y)) (hk : elemIs P t k = true) (hs : aOp c call env H (.app k x' y') = some (v, H', fl)) : Ok P X φ w o a v H' := by
  obtain ⟨e, i, z, hu, hi, hik, hk0, hby, hiz, hzk⟩ := elemIs_spec hk
  have fin : ∀ {p q v' : Value} {w' : World} {φ' : Phi}, a.eval x = p → a.eval y = q → (Builtin.append_ #[t, t] o.type #[p, q]).run P w = .ok v' w' → Rep (Rd X φ' w') φ' v v' → HRel X φ' w' H' → Adv φ w φ' w' → Ok P X φ w o a v H' := by
    intro p q v' w' φ' hp hq hr r h k
    refine Ok.value ?_ r h k
    simp only [execOp, hop, resolve, hca, hargs, hty, invoke, builtin, List.map_toArray, List.map_cons, List.map_nil, hp, hq, Sem.run_bind, Sem.run_pure, Result.andThen_ok, hr]
  simp only [aOp] at hs
  split at hs
  case h_2 => cases hs
  rename_i news m hsc
  obtain ⟨ao, capy, vs, hy, hvl, hcsn, hvc, hnone⟩ := sliceCells_ok hh hsc ry
  have hL : LIM = 4294967296 := rfl
  split at hs
  · rename_i hx'
    rw [hx'] at rx
    generalize hx : a.eval x = ax at rx
    cases rx
    by_cases hm : m = 0
    · subst hm
      simp at hs
      obtain ⟨rfl, rfl, rfl⟩ := hs
      exact fin hx hy (run_append_zero hu hi (Nat.le_refl 0)) (.nils _) hh (.refl _ _)
    · rw [if_neg hm] at hs
      split at hs
      case isFalse => cases hs
      rename_i hc
      obtain ⟨hlim, hlf⟩ := hc
      simp at hs
      obtain ⟨rfl, rfl, rfl⟩ := hs
      cases ao with
      | none => exact absurd (hnone rfl) hm
      | some ad =>
        have hmb : m * i.bytes ≤ 4294967296 * 1024 := Nat.mul_le_mul (by omega) hby
        have hr := run_append_nil (P := P) w t o.type e i z hu hi hiz ad m capy vs (by rw [hvl, hik]) (hvc ad rfl) (by omega) (by omega) (by omega)
        have hge := grownCap_ge w m 0 e
        have hsz : (vs.toArray ++ Builtin.zeroCells z.cells (grownCap w m 0 e - m)).size = grownCap w m 0 e * k := by
          simp only [Array.size_append, List.size_toArray, size_zeroCells, hzk, hvl, ← Nat.add_mul]; congr 1; omega
        obtain ⟨q1, q2⟩ := alloc_ok hh (w1 := w.drew) (arr := vs.toArray ++ Builtin.zeroCells z.cells (grownCap w m 0 e - m)) (e := e) (cs := news) rfl rfl rfl rfl
          (by rw [hsz, hcsn.1, hvl]; exact Nat.mul_le_mul_right _ hge)
          (hcsn.at fun j u hj => by rw [Array.getElem?_append_left (by simpa using lt_of_getElem? hj)]; simpa using hj)
        exact fin hx hy hr (new_sl hh.len hge (by rw [hsz]; exact Nat.le_refl _)) q1 q2
  · rename_i k' b n hx'
    split at hs
    case h_2 => cases hs
    rename_i cs hcs
    split at hs
    case isFalse => cases hs
    rename_i hc
    obtain ⟨rfl, hnk, hlim, hlf⟩ := hc
    simp at hs
    obtain ⟨rfl, rfl, rfl⟩ := hs
    rw [hx'] at rx
    generalize hx : a.eval x = ax at rx
    cases rx with
    | sl _ _ _ _ _ ad cap hb hcap hp =>
      obtain ⟨g, sz, arr, e2, hφ, hg, hsz, hle, hX, hm6⟩ := hh.at hcs
      obtain ⟨haddr, hroom⟩ := hp g sz hφ
      have hold : Cs X φ w (cs.take (n * k')) (arr.toList.take (n * k')) := by
        refine ⟨by simp; omega, fun j x u hx hu => ?_⟩
        have hj : j < n * k' := by have := lt_of_getElem? hx; simp at this; omega
        rw [List.getElem?_take_of_lt hj] at hx hu
        obtain ⟨u', h1, h2⟩ := hm6 j x hx
        simp at hu
        rw [h1] at hu
        simp at hu
        subst hu
        exact h2
      have hall := hold.append hcsn
      have hl2 : (arr.toList.take (n * k')).length = n * k' := by simp; omega
      have hlen : (n : Nat) * k' + m * k' = (n + m) * k' := by rw [Nat.add_mul]
      by_cases hm : m = 0
      · subst hm
        have hvs : vs = [] := List.eq_nil_of_length_eq_zero (by omega)
        subst hvs
        obtain ⟨q1, q2⟩ := hh.move (cs' := cs.take (n * k') ++ news) (arr' := arr) (w' := w) hφ hg hsz rfl (by rw [setRow_self w g arr e2 _ hg]) hX
          (by rw [hall.1]; simp; omega) (hall.at fun j u hj => by
            rw [List.append_nil] at hj
            have hj' : j < n * k' := by have := lt_of_getElem? hj; omega
            rw [List.getElem?_take_of_lt hj'] at hj
            simpa using hj)
        refine fin hx hy (run_append_zero hu hi hcap) ?_ q1 q2
        refine .sl _ _ _ _ _ _ _ (by simp [hh.len]) hcap fun g' sz' hg' => ?_
        rw [List.getElem?_append_right (by simp [hh.len])] at hg'
        simp [hh.len] at hg'
        obtain ⟨rfl, rfl⟩ := hg'
        exact ⟨haddr, by omega⟩
      · cases ao with
        | none => exact absurd (hnone rfl) hm
        | some ady =>
          have h1c := hcsn.oneCell hlf
          by_cases hroom2 : n + m ≤ cap
          · obtain rfl := haddr (by omega)
            have hfit : n * i.size + vs.length ≤ arr.size := by
              rw [hik, hvl, hlen]
              have := Nat.mul_le_mul_right k' hroom2
              omega
            have hr := run_append_room' (P := P) (ty := o.type) (c := capy) hu hi hg (by rw [hvl, hik]) (hvc ady rfl) h1c hroom2 hfit
            rw [hik] at hr hfit
            have hsize : (arr.toList.take (n * k') ++ vs ++ arr.toList.drop (n * k' + vs.length)).toArray.size = arr.size := by
              simp only [List.size_toArray, List.length_append, List.length_take, List.length_drop, Array.length_toList]; omega
            obtain ⟨q1, q2⟩ := hh.move (cs' := cs.take (n * k') ++ news) (arr' := (arr.toList.take (n * k') ++ vs ++ arr.toList.drop (n * k' + vs.length)).toArray) hφ hg hsz hsize rfl hX
              (by rw [hall.1, hsize]; simp; omega) (hall.at fun j u hj => by
                simp only [List.getElem?_toArray]
                rw [List.getElem?_append_left (lt_of_getElem? hj)]
                exact hj)
            refine fin hx hy hr (new_sl' (by simp [hh.len]) hroom2 (by omega)) q1 q2
          · have holds : ∀ (j : Nat) (u : Value), (arr.toList.take (n * k'))[j]? = some u → w.cell? (ad.add j) = some u := by
              intro j u hj
              have hj' : j < n * k' := by have := lt_of_getElem? hj; omega
              have hn0 : 0 < n := by
                rcases Nat.eq_zero_or_pos n with h | h
                · subst h; simp at hj'
                · exact h
              obtain rfl := haddr (by omega)
              rw [Addr.add_none, cell_of_heap hg]
              rw [List.getElem?_take_of_lt hj'] at hj
              simpa using hj
            have hmb : (n + m) * i.bytes ≤ 4294967296 * 1024 := Nat.mul_le_mul (by omega) hby
            have hr := run_append_grow (P := P) w t o.type e i z hu hi hiz ad n cap (arr.toList.take (n * k')) (by rw [hl2, hik]) holds ady m capy vs (by rw [hvl, hik]) (hvc ady rfl) (by omega) (by omega)
              (growslice_fits (by omega) (by omega))
            have hge := grownCap_ge w (n + m) cap e
            have hsz2 : ((arr.toList.take (n * k')).toArray ++ vs.toArray ++ Builtin.zeroCells z.cells (grownCap w (n + m) cap e - (n + m))).size = grownCap w (n + m) cap e * k' := by
              simp only [Array.size_append, List.size_toArray, size_zeroCells, hzk, hvl, hl2, ← Nat.add_mul]; congr 1; omega
            obtain ⟨k1, k2⟩ := hh.kill1 b
            have hall' : Cs X (φ.set b none) w (cs.take (n * k') ++ news) (arr.toList.take (n * k') ++ vs) := ⟨hall.1, fun j x u hx hu => k2.rep (hall.2 j x u hx hu)⟩
            obtain ⟨q1, q2⟩ := alloc_ok k1 (w1 := w.drew) (arr := (arr.toList.take (n * k')).toArray ++ vs.toArray ++ Builtin.zeroCells z.cells (grownCap w (n + m) cap e - (n + m))) (e := e) (cs := cs.take (n * k') ++ news) rfl rfl rfl rfl
              (by rw [hsz2, hall.1, List.length_append, hl2, hvl, hlen]; exact Nat.mul_le_mul_right _ hge)
              (hall'.at fun j u hj => by
                rw [Array.getElem?_append_left (by simpa using lt_of_getElem? hj)]
                have : ((arr.toList.take (n * k')).toArray ++ vs.toArray) = (arr.toList.take (n * k') ++ vs).toArray := by simp
                rw [this]
                simpa using hj)
            refine fin hx hy hr ?_ q1 (k2.trans q2)
            exact new_sl' (by simp [hh.len]) hge (by rw [hsz2]; exact Nat.le_refl _)
  · cases hs

/-! Calls -/
def Ret (X : Nat → Prop) (φ : Phi) (w : World) (r : AV) (H' : Heap) (e : Ending) (w' : World) : Prop :=
  ∃ v' φ', e = .returned v' ∧ Rep (Rd X φ' w') φ' r v' ∧ HRel X φ' w' H' ∧ Adv φ w φ' w'
def CallOK (P : Program) (c : Cfg) (call : Nat → List AV → Heap → Option (AV × Heap)) : Prop :=
  ∀ f m q, c.fn f = some (m, q) → ∀ args H r H', call f args H = some (r, H') → ∀ X φ w vargs, ARel X φ w args vargs → HRel X φ w H → GlOK c X φ w → Calls P f vargs w (Ret X φ w r H')

theorem HRel.own_lt (h : HRel X φ w H) {g : Nat} (ho : Owned φ g) : g < w.heap.size ∧ ¬ X g := by
  obtain ⟨b, sz, hb⟩ := ho
  obtain ⟨x, hx⟩ := getElem?_some_of (l := H) (i := b) (h.len ▸ lt_of_getElem? hb)
  cases x with
  | none => rw [h.dead b hx] at hb; simp at hb
  | some cs =>
    obtain ⟨g', sz', arr, e, h1, h2, _, _, h5, _⟩ := h.live b cs hx
    rw [h1] at hb
    simp at hb
    rw [← hb.1]
    exact ⟨(Array.getElem?_eq_some_iff.1 h2).1, h5⟩
theorem HRel.empty (h : HRel X φ w H) : HRel (fun g => X g ∨ Owned φ g) [] w [] :=
  ⟨rfl, fun g hg => hg.elim (h.xlt g) (fun ho => (h.own_lt ho).1), fun b cs hb => by simp at hb, fun b hb => by simp at hb, fun b b' g sz sz' h1 => by simp at h1⟩
theorem mapF_frz (hh : HRel X φ w H) {R : Addr → Value → Prop} (hR : ∀ a u, Rd X φ w a u → R a u) {xs ys : List AV} {bs : List Nat} {n : Nat} {vs : Array Value} (hm : mapF (frz H n) xs = some (ys, bs))
    (hb : ∀ b ∈ bs, ∀ g sz : Nat, φ[b]? = some (some (g, sz)) → ∀ o u, w.cell? ⟨g, o, none⟩ = some u → R ⟨g, o, none⟩ u) (ha : ARel X φ w xs vs) :
    ys.length = vs.size ∧ ∀ (i : Nat) (c : AV) (v : Value), ys[i]? = some c → vs[i]? = some v → Rep R [] c v := by
  obtain ⟨hl, hm'⟩ := mapF_spec hm
  refine ⟨by rw [hl, ha.1], fun i c v hc hv => ?_⟩
  obtain ⟨x, hx⟩ := getElem?_some_of (l := xs) (i := i) (by have := lt_of_getElem? hc; omega)
  obtain ⟨y, b, e1, e2, e3⟩ := hm' i x hx
  rw [e2] at hc
  simp at hc
  subst hc
  exact frz_rep hh hR n x _ v b e1 (fun b' hb' => hb b' (e3 b' hb')) (ha.2 i x v hx hv)

/-- A call of a function that sees no heap, over arguments by value. -/
theorem pure_call {call : Nat → List AV → Heap → Option (AV × Heap)} (hcall : CallOK P c call) {f : Nat} {m : Md} {q : AFn} (hf : c.fn f = some (m, q)) {args : List AV} {r r' : AV} {H1 : Heap} {bs : List Nat} (hr : call f args [] = some (r, H1)) (hz : frz H1 DEEP r = some (r', bs))
    (hh : HRel X φ w H) (hg : GlOK c X φ w) {vargs : Array Value} (ha : args.length = vargs.size ∧ ∀ (i : Nat) (c : AV) (v : Value), args[i]? = some c → vargs[i]? = some v → Rep (Rd X φ w) [] c v) :
    Calls P f vargs w (Ret X φ w r' H) := by
  have hsub : ∀ {w' : World} a u, Rd X φ w' a u → Rd (fun g => X g ∨ Owned φ g) [] w' a u := fun a u ⟨h1, h2, h3⟩ => ⟨fun h => h.elim h1 h2, Owned.nil _, h3⟩
  have hback : ∀ {w' : World} a u, Rd (fun g => X g ∨ Owned φ g) [] w' a u → Rd X φ w' a u := fun a u ⟨h1, _, h3⟩ => ⟨fun h => h1 (.inl h), fun h => h1 (.inr h), h3⟩
  refine (hcall f m q hf args [] r H1 hr (fun g => X g ∨ Owned φ g) [] w vargs ⟨ha.1, fun i x v hx hv => (ha.2 i x v hx hv).mono hsub (.refl _)⟩ hh.empty (fun g => (hg g).mono hsub (.refl _))).mono ?_
  rintro e w1 ⟨v', φ1, rfl, r1, h1, a1⟩
  refine ⟨v', φ, rfl, ?_, hh.of_same a1, .of_same a1⟩
  have hfz := frz_rep h1 (R := Rd (fun g => X g ∨ Owned φ g) [] w1) (fun a u ⟨p1, p2, p3⟩ => ⟨p1, Owned.nil _, p3⟩) DEEP r r' v' bs hz
    (fun b _ g sz hb o u hu => ⟨(h1.own_lt ⟨b, sz, hb⟩).2, Owned.nil _, hu⟩) r1
  exact (hfz.mono hback (.refl _)).mono0 φ
theorem doCall_ok {call : Nat → List AV → Heap → Option (AV × Heap)} (hcall : CallOK P c call) {f : Nat} {args : List AV} {r : AV} {H' : Heap} {fl : Fp} (hs : doCall c call f args H = some (r, H', fl))
    (hh : HRel X φ w H) (hg : GlOK c X φ w) {vargs : Array Value} (ha : ARel X φ w args vargs) : (∃ m q, c.fn f = some (m, q)) ∧ Calls P f vargs w (Ret X φ w r H') := by
  unfold doCall at hs
  split at hs
  · cases hs
  · rename_i q hf
    refine ⟨⟨_, _, hf⟩, ?_⟩
    split at hs
    case h_2 => cases hs
    rename_i r1 H1 hr
    simp at hs
    obtain ⟨rfl, rfl, rfl⟩ := hs
    exact hcall f _ q hf args H r1 H1 hr X φ w vargs ha hh hg
  · rename_i q hf
    refine ⟨⟨_, _, hf⟩, ?_⟩
    split at hs
    case h_2 => cases hs
    rename_i r1 H1 hr
    split at hs
    case h_2 => cases hs
    rename_i r' bs hz
    split at hs
    case isFalse => cases hs
    rename_i hc
    obtain ⟨hle, hge, hok⟩ := hc
    simp at hs
    obtain ⟨rfl, rfl, rfl⟩ := hs
    refine (hcall f _ q hf args H r1 H1 hr X φ w vargs ha hh hg).mono ?_
    rintro e w1 ⟨v', φ1, rfl, r1, h1, a1⟩
    have hlen := hh.len
    refine ⟨v', φ1.take φ.length, rfl, ?_, by rw [hlen]; exact h1.take hle hok, a1.take⟩
    have hmem : ∀ {n : Nat} {l : List Nat}, allGe n l = true → ∀ b ∈ l, n ≤ b := by
      intro n l
      induction l with
      | nil => intro _ b hb; simp at hb
      | cons x r ih =>
        intro h b hb
        simp only [allGe, Bool.and_eq_true, decide_eq_true_eq] at h
        rcases List.mem_cons.1 hb with h' | h'
        · subst h'; exact h.1
        · exact ih h.2 b h'
    have hfz := frz_rep h1 (R := Rd X (φ1.take φ.length) w1) rd_take DEEP _ _ v' bs hz (fun b hb g sz hφ o u hu => ?_) r1
    · exact hfz.mono0 _
    · refine ⟨(h1.own_lt ⟨b, sz, hφ⟩).2, fun ⟨b', sz', hb'⟩ => ?_, hu⟩
      rw [List.getElem?_take] at hb'
      split at hb'
      · rename_i hlt
        have := h1.inj b b' g sz sz' hφ hb'
        have := hmem hge b hb
        omega
      · cases hb'
  · rename_i q hf
    refine ⟨⟨_, _, hf⟩, ?_⟩
    split at hs
    · rename_i hpl
      split at hs
      case h_2 => cases hs
      rename_i r1 H1 hr
      split at hs
      case h_2 => cases hs
      rename_i r' bs hz
      simp at hs
      obtain ⟨rfl, rfl, rfl⟩ := hs
      exact pure_call hcall hf hr hz hh hg ⟨ha.1, fun i x v hx hv => (ha.2 i x v hx hv).of_plain (plainL_mem hpl i x hx) []⟩
    · split at hs
      case h_2 => cases hs
      rename_i args' bs hm
      split at hs
      case h_2 => cases hs
      rename_i r1 H1 hr
      split at hs
      case h_2 => cases hs
      rename_i r' bs' hz
      split at hs
      · rename_i hflat
        simp at hs
        obtain ⟨rfl, rfl, rfl⟩ := hs
        have hh0 : HRel X [] w [] := ⟨rfl, hh.xlt, fun b cs hb => by simp at hb, fun b hb => by simp at hb, fun b b' g sz sz' h1 => by simp at h1⟩
        have hsub : ∀ {w' : World} a u, Rd X φ w' a u → Rd X [] w' a u := fun a u ⟨h1, _, h3⟩ => ⟨h1, Owned.nil _, h3⟩
        have ha' := mapF_frz hh (R := Rd X [] w) hsub hm (fun b _ g sz hb o u hu => ⟨(hh.own_lt ⟨b, sz, hb⟩).2, Owned.nil _, hu⟩) ha
        have hc := pure_call (X := X) (φ := []) (H := []) hcall hf hr hz hh0 (fun g => (hg g).mono hsub (.refl _)) ha'
        refine hc.mono ?_
        rintro e w1 ⟨v', φ1, rfl, r1, h1, a1⟩
        exact ⟨v', φ, rfl, r1.of_flat hflat _ _, hh.of_same a1, .of_same a1⟩
      · simp at hs
        obtain ⟨rfl, rfl, rfl⟩ := hs
        obtain ⟨k1, k2⟩ := HRel.kill bs hh
        have ha' := mapF_frz hh (R := Rd X (killP φ bs) w) k2.rd hm (fun b hb g sz hφ o u hu => ⟨(hh.own_lt ⟨b, sz, hφ⟩).2, fun ⟨b', sz', hb'⟩ => by
          obtain ⟨e1, e2⟩ := killP_sub bs φ b' _ hb'
          exact e2 (hh.inj b b' g sz sz' hφ e1 ▸ hb), hu⟩) ha
        have hc := pure_call hcall hf hr hz k1 (hg.adv k2) ha'
        refine hc.mono ?_
        rintro e w1 ⟨v', φ1, rfl, r1, h1, a1⟩
        exact ⟨v', φ1, rfl, r1, h1, k2.trans a1⟩

theorem run_callFunc (hok : CfgOK P c) {f : Nat} {m : Md} {q : AFn} (hf : c.fn f = some (m, q)) (vargs : Array Value) : (callFunc f vargs).run P w = .ok (.enter f vargs) w := by
  obtain ⟨fn, h1, h2⟩ := hok.fn f m q hf
  simp only [chkF, Bool.and_eq_true, Bool.not_eq_true'] at h2
  obtain ⟨⟨⟨_, hname⟩, _⟩, hbody⟩ := h2
  have hb : fn.body.isNone = false := by
    cases hfb : fn.body with
    | none => rw [hfb] at hbody; cases hbody
    | some b => rfl
  simp only [callFunc, Sem.run_bind, run_program, Result.andThen_ok, h1, hname, hb, Bool.false_eq_true, if_false, Sem.run_pure]
theorem Ok.call {f : Nat} {vargs : Array Value} {r : AV} {H' : Heap} (hr : (execOp a.eval o).run P w = .ok (.enter f vargs) w) (hc : Calls P f vargs w (Ret X φ w r H')) : Ok P X φ w o a r H' := by
  intro K Q hK
  unfold Oper.wp
  rw [hr, Oper.upon_enter]
  refine hc.mono ?_
  rintro e w' ⟨v', φ', rfl, r1, h1, a1⟩
  exact hK v' w' φ' r1 h1 a1
theorem ok_call {call : Nat → List AV → Heap → Option (AV × Heap)} (hok : CfgOK P c) (hcall : CallOK P c call) {ca : Call} {f : Nat} {ys : List E} {r : AV} {H' : Heap} {fl : Fp} (hop : o.op = .call ca) (hca : ca.callee = .value (.func f))
    (hh : HRel X φ w H) (he : ERel X φ w env a.tmps) (hg : GlOK c X φ w) (hargs : chkEs ca.args.toList ys = true) (hs : aOp c call env H (.call f ys) = some (r, H', fl)) : Ok P X φ w o a r H' := by
  obtain ⟨hl, hr⟩ := evals_rep he hg hargs
  obtain ⟨⟨m, q, hf⟩, hc⟩ := doCall_ok (P := P) hcall hs hh hg (vargs := ca.args.map a.eval) ⟨by simp [hl], fun i x v hx hv => hr i x v hx (by simpa using hv)⟩
  refine Ok.call ?_ hc
  simp only [execOp, hop, resolve, hca, Act.eval, Deferred.ofValue, invoke, Sem.run_bind, Sem.run_pure, Result.andThen_ok, Array.empty_append, Array.append_empty]
  exact run_callFunc hok hf _
theorem ok_callv {call : Nat → List AV → Heap → Option (AV × Heap)} (hok : CfgOK P c) (hcall : CallOK P c call) {ca : Call} {x : Operand} {y : E} {ys : List E} {r : AV} {H' : Heap} {fl : Fp} (hop : o.op = .call ca) (hca : ca.callee = .value x)
    (hh : HRel X φ w H) (he : ERel X φ w env a.tmps) (hg : GlOK c X φ w) (hx : chkE x y = true) (hargs : chkEs ca.args.toList ys = true) (hs : aOp c call env H (.callv y ys) = some (r, H', fl)) : Ok P X φ w o a r H' := by
  obtain ⟨hl, hr⟩ := evals_rep he hg hargs
  have rx := eval_rep (a := a) he hg hx
  simp only [aOp] at hs
  split at hs
  case h_2 => cases hs
  rename_i f as bs hy
  rw [hy] at rx
  generalize hax : a.eval x = ax at rx
  cases rx with
  | func _ _ _ va _ vb hla hlb hra hrb =>
    have hall : ARel X φ w (as ++ evs c env ys ++ bs) (va ++ ca.args.map a.eval ++ vb) := by
      have c1 : Cs X φ w as va.toList := ⟨by simpa using hla, fun i x v hx hv => hra i x v hx (by simpa using hv)⟩
      have c2 : Cs X φ w (evs c env ys) (ca.args.map a.eval).toList := ⟨by simp [hl], fun i x v hx hv => hr i x v hx (by simpa using hv)⟩
      have c3 : Cs X φ w bs vb.toList := ⟨by simpa using hlb, fun i x v hx hv => hrb i x v hx (by simpa using hv)⟩
      have c4 := (c1.append c2).append c3
      exact ⟨by have := c4.1; simp at this ⊢; omega, fun i x v hx hv => c4.2 i x v hx (by
        have : (va ++ ca.args.map a.eval ++ vb).toList = va.toList ++ (ca.args.map a.eval).toList ++ vb.toList := by simp
        rw [← this, Array.getElem?_toList]; exact hv)⟩
    obtain ⟨⟨m, q, hf⟩, hc⟩ := doCall_ok (P := P) hcall hs hh hg hall
    refine Ok.call ?_ hc
    simp only [execOp, hop, resolve, hca, hax, Deferred.ofValue, invoke, Sem.run_bind, Sem.run_pure, Result.andThen_ok]
    exact run_callFunc hok hf _
end
end Go.Am
