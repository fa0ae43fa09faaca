/- What one operation of the dump does, continued: memory. -/
import Derived.Test.YtnffadblmhadbaaAmE
set_option linter.unusedSimpArgs false
namespace Go.Am
section
variable {P : Program} {c : Cfg} {X : Nat → Prop} {φ : Phi} {w : World} {env : Env} {H : Heap} {a : Act} {o : Oper}

/-- Lists of cells that stand for each other. -/
def Cs (X : Nat → Prop) (φ : Phi) (w : World) (cs : List AV) (vs : List Value) : Prop := cs.length = vs.length ∧ ∀ (i : Nat) (c : AV) (v : Value), cs[i]? = some c → vs[i]? = some v → Rep (Rd X φ w) φ c v
theorem Cs.get {cs : List AV} {vs : List Value} (h : Cs X φ w cs vs) {i : Nat} {c : AV} (hc : cs[i]? = some c) : ∃ u, vs[i]? = some u ∧ Rep (Rd X φ w) φ c u := by
  obtain ⟨u, hu⟩ := getElem?_some_of (l := vs) (i := i) (h.1 ▸ lt_of_getElem? hc)
  exact ⟨u, hu, h.2 i c u hc hu⟩
theorem Cs.append {cs ds : List AV} {vs us : List Value} (h : Cs X φ w cs vs) (k : Cs X φ w ds us) : Cs X φ w (cs ++ ds) (vs ++ us) := by
  refine ⟨by simp [h.1, k.1], fun i c v hc hv => ?_⟩
  by_cases hi : i < cs.length
  · rw [List.getElem?_append_left hi] at hc
    rw [List.getElem?_append_left (h.1 ▸ hi)] at hv
    exact h.2 i c v hc hv
  · rw [List.getElem?_append_right (by omega)] at hc
    rw [List.getElem?_append_right (by have := h.1; omega)] at hv
    rw [h.1] at hc
    exact k.2 _ c v hc hv
theorem Cs.take {cs : List AV} {vs : List Value} (h : Cs X φ w cs vs) (n : Nat) : Cs X φ w (cs.take n) (vs.take n) := by
  refine ⟨by simp [h.1], fun i c v hc hv => ?_⟩
  have hi : i < n := by have := lt_of_getElem? hc; simp at this; omega
  rw [List.getElem?_take_of_lt hi] at hc hv
  exact h.2 i c v hc hv
theorem Cs.drop {cs : List AV} {vs : List Value} (h : Cs X φ w cs vs) (n : Nat) : Cs X φ w (cs.drop n) (vs.drop n) := by
  refine ⟨by simp [h.1], fun i c v hc hv => ?_⟩
  rw [List.getElem?_drop] at hc hv
  exact h.2 _ c v hc hv
theorem Cs.ovw {cs ds : List AV} {vs us : List Value} (h : Cs X φ w cs vs) (k : Cs X φ w ds us) (off : Nat) : Cs X φ w (ovw cs off ds) (vs.take off ++ us ++ vs.drop (off + us.length)) := by
  unfold Am.ovw
  rw [← k.1]
  exact ((h.take off).append k).append (h.drop _)
theorem Rep.cs {x : AV} {v : Value} (h : Rep (Rd X φ w) φ x v) (hs : allLeaf x.cells = true) : Cs X φ w x.cells v.cells.toList ∧ ∀ u ∈ v.cells.toList, u.oneCell' = true := by
  obtain ⟨hl, hm⟩ := h.cells hs
  refine ⟨⟨by simpa using hl, fun i c u hc hu => ?_⟩, fun u hu => ?_⟩
  · obtain ⟨u', h1, h2, _⟩ := hm i c hc
    simp at hu
    rw [h1] at hu
    simp at hu
    subst hu
    exact h2
  · obtain ⟨i, hi⟩ := List.getElem?_of_mem hu
    obtain ⟨c, hc⟩ := getElem?_some_of (l := x.cells) (i := i) (by have := lt_of_getElem? hi; simp at this; omega)
    obtain ⟨u', h1, _, h3⟩ := hm i c hc
    simp at hi
    rw [h1] at hi
    simp at hi
    subst hi
    exact h3
theorem Cs.oneCell {cs : List AV} {vs : List Value} (h : Cs X φ w cs vs) (hl : allLeaf cs = true) : ∀ u ∈ vs, u.oneCell' = true := by
  intro u hu
  obtain ⟨i, hi⟩ := List.getElem?_of_mem hu
  obtain ⟨c, hc⟩ := getElem?_some_of (l := cs) (i := i) (by have := lt_of_getElem? hi; have := h.1; omega)
  exact (h.2 i c u hc hi).oneCell (allLeaf_mem hl i c hc)
theorem zeroIs_cs {t : TypeId} {zs : List AV} (h : zeroIs P t zs = true) : ∃ i z, P.info? t = some i ∧ i.zero = some z ∧ Cs X φ w zs z.cells.toList ∧ allLeaf zs = true := by
  unfold zeroIs at h
  split at h
  · rename_i i hi
    split at h
    · rename_i z hz
      simp only [Bool.and_eq_true] at h
      exact ⟨i, z, hi, hz, chkVs_rep h.1, h.2⟩
    · cases h
  · cases h
theorem elemIs_spec {t : TypeId} {k : Nat} (h : elemIs P t k = true) : ∃ e i z, P.underlying t = some (.slice e) ∧ P.info? e = some i ∧ i.size = k ∧ 0 < k ∧ i.bytes ≤ 1024 ∧ i.zero = some z ∧ z.cells.size = k := by
  unfold elemIs at h
  split at h
  · rename_i e hu
    split at h
    · rename_i i hi
      simp only [Bool.and_eq_true, decide_eq_true_eq] at h
      obtain ⟨⟨⟨h1, h2⟩, h3⟩, h4⟩ := h
      split at h4
      · rename_i z hz
        exact ⟨e, i, z, hu, hi, h1, h2, h3, hz, by simpa using h4⟩
      · cases h4
    · cases h
  · cases h

/-- The new block of an allocation. -/
theorem alloc_ok (hh : HRel X φ w H) {arr : Array Value} {e : TypeId} {cs : List AV} {w1 : World} (hw : w1.heap = w.heap) (ho : w1.os = w.os) (ht : w1.tape = w.tape) (hp : w1.output = w.output)
    (hl : cs.length ≤ arr.size) (hc : ∀ (i : Nat) (c : AV), cs[i]? = some c → ∃ u, arr[i]? = some u ∧ Rep (Rd X φ w) φ c u) :
    HRel X (φ ++ [some (w.heap.size, arr.size)]) (w1.alloc (.cells arr e)) (H ++ [some cs]) ∧ Adv φ w (φ ++ [some (w.heap.size, arr.size)]) (w1.alloc (.cells arr e)) :=
  hh.alloc (w' := w1.alloc (.cells arr e)) (e := e) (by simp [World.alloc, hw]) ho ht hp hl hc
theorem Cs.at {cs : List AV} {vs : List Value} {arr : Array Value} (h : Cs X φ w cs vs) (hv : ∀ (i : Nat) (u : Value), vs[i]? = some u → arr[i]? = some u) : ∀ (i : Nat) (c : AV), cs[i]? = some c → ∃ u, arr[i]? = some u ∧ Rep (Rd X φ w) φ c u := by
  intro i c hc
  obtain ⟨u, hu, r⟩ := h.get hc
  exact ⟨u, hv i u hu, r⟩
theorem new_ptr {R : Addr → Value → Prop} {n g sz : Nat} (hn : φ.length = n) : Rep R (φ ++ [some (g, sz)]) (.ptr n 0) (.pointer (some ⟨g, 0, none⟩)) := by
  refine .ptr _ _ _ _ (by simp [hn]) fun g' sz' h => ?_
  subst hn
  simp at h
  rw [h.1]
theorem new_sl {R : Addr → Value → Prop} {n g sz k len cap : Nat} (hn : φ.length = n) (hc : len ≤ cap) (hs : cap * k ≤ sz) : Rep R (φ ++ [some (g, sz)]) (.sl k n 0 len) (.slice (some ⟨g, 0, none⟩) len cap) := by
  refine .sl _ _ _ _ _ _ _ (by simp [hn]) hc fun g' sz' h => ?_
  subst hn
  simp at h
  obtain ⟨rfl, rfl⟩ := h
  exact ⟨fun _ => rfl, by omega⟩
theorem new_sl' {R : Addr → Value → Prop} {ψ : Phi} {n g sz k len cap : Nat} (hn : ψ.length = n) (hc : len ≤ cap) (hs : cap * k ≤ sz) : Rep R (ψ ++ [some (g, sz)]) (.sl k n 0 len) (.slice (some ⟨g, 0, none⟩) len cap) := new_sl hn hc hs

theorem ok_new {t : TypeId} {zs : List AV} (hop : o.op = .alloc t) (hh : HRel X φ w H) (hz : zeroIs P t zs = true) : Ok P X φ w o a (.ptr H.length 0) (H ++ [some zs]) := by
  obtain ⟨i, z, hi, hz, hcs, _⟩ := zeroIs_cs (X := X) (φ := φ) (w := w) hz
  obtain ⟨h1, h2⟩ := alloc_ok hh (w1 := w) (arr := z.cells) (e := t) rfl rfl rfl rfl (by rw [hcs.1]; simp) (hcs.at (by simp))
  refine Ok.value ?_ (new_ptr hh.len) h1 h2
  simp [execOp, hop, Instr.alloc, run_zero hi hz, newVar, newRow]
theorem ok_box {t : TypeId} {x : Operand} {v : AV} (hop : o.op = .box t x) (hh : HRel X φ w H) (r : Rep (Rd X φ w) φ v (a.eval x)) (hs : allLeaf v.cells = true) :
    Ok P X φ w o a (.ptr H.length 0) (H ++ [some v.cells]) := by
  obtain ⟨hcs, _⟩ := r.cs hs
  obtain ⟨h1, h2⟩ := alloc_ok hh (w1 := w) (arr := (a.eval x).cells) (e := t) rfl rfl rfl rfl (by rw [hcs.1]; simp) (hcs.at (by simp))
  refine Ok.value ?_ (new_ptr hh.len) h1 h2
  simp [execOp, hop, Instr.box, newVar, newRow]

theorem ok_ld {t : TypeId} {x : Operand} {y : E} {ag : Option Nat} {v : AV} {H' : Heap} {fl : Fp} {call : Nat → List AV → Heap → Option (AV × Heap)} (hop : o.op = .load t x) (hh : HRel X φ w H) (r : Rep (Rd X φ w) φ (ev c env y) (a.eval x))
    (ha : aggOf P t = some ag) (hs : aOp c call env H (.ld ag y) = some (v, H', fl)) : Ok P X φ w o a v H' := by
  have go : ∀ {cs : List AV} {ad : Addr}, a.eval x = .pointer (some ad) → Plc X φ w cs ad → rdc ag cs = some v → Ok P X φ w o a v H := by
    intro cs ad hx hp hv
    obtain ⟨u, h1, h2⟩ := load_ok ha hv hp
    exact Ok.quiet (by simp [execOp, hop, hx, Instr.loadAt, Instr.sureAddr, h1]) h2 hh
  simp only [aOp] at hs
  split at hs
  · rename_i cs hc
    split at hs
    · rename_i u hu
      simp at hs
      obtain ⟨rfl, rfl, rfl⟩ := hs
      rw [hc] at r
      obtain ⟨ad, h1, h2⟩ := Plc.of_fptr r
      exact go h1 h2 hu
    · cases hs
  · rename_i b off hc
    split at hs
    · rename_i cs hb
      split at hs
      · rename_i u hu
        simp at hs
        obtain ⟨rfl, rfl, rfl⟩ := hs
        rw [hc] at r
        obtain ⟨g, sz, arr, e, h1, _, _, _, _, _, _, h2⟩ := Plc.of_ptr hh hb r
        exact go h1 h2 hu
      · cases hs
    · cases hs
  · cases hs

theorem ovw_length {cs vs : List AV} {off : Nat} (h : off + vs.length ≤ cs.length) : (ovw cs off vs).length = cs.length := by
  unfold ovw
  simp only [List.length_append, List.length_take, List.length_drop]
  omega
theorem seg_get (l us : List Value) (off n i : Nat) (h : off + us.length ≤ n) (hn : n ≤ l.length) (hi : i < n) :
    (l.take off ++ us ++ l.drop (off + us.length))[i]? = ((l.take n).take off ++ us ++ (l.take n).drop (off + us.length))[i]? := by
  have e1 : (l.take off).length = off := by simp; omega
  have e2 : ((l.take n).take off).length = off := by simp; omega
  by_cases h1 : i < off
  · rw [List.append_assoc, List.append_assoc, List.getElem?_append_left (by omega), List.getElem?_append_left (by omega), List.getElem?_take_of_lt h1, List.getElem?_take_of_lt h1, List.getElem?_take_of_lt hi]
  · by_cases h2 : i < off + us.length
    · have f1 : i < (l.take off ++ us).length := by rw [List.length_append, e1]; omega
      have f2 : i < ((l.take n).take off ++ us).length := by rw [List.length_append, e2]; omega
      rw [List.getElem?_append_left f1, List.getElem?_append_left f2, List.getElem?_append_right (by omega), List.getElem?_append_right (by omega), e1, e2]
    · have f1 : (l.take off ++ us).length = off + us.length := by rw [List.length_append, e1]
      have f2 : ((l.take n).take off ++ us).length = off + us.length := by rw [List.length_append, e2]
      rw [List.getElem?_append_right (by omega), List.getElem?_append_right (by omega), f1, f2, List.getElem?_drop, List.getElem?_drop, List.getElem?_take_of_lt (by omega)]
/-- Cells are written into an own block. -/
theorem write_ok (hh : HRel X φ w H) {b off : Nat} {cs : List AV} (hb : blk H b = some cs) {v : Value} (r : Rep (Rd X φ w) φ (.ptr b off) v) {ds : List AV} {us : List Value} (hcs : Cs X φ w ds us)
    (h1 : ∀ u ∈ us, u.oneCell' = true) (hfit : off + ds.length ≤ cs.length) :
    ∃ g w', v = .pointer (some ⟨g, off, none⟩) ∧ (storeCells ⟨g, off, none⟩ us).run P w = .ok () w' ∧ HRel X φ w' (H.set b (some (ovw cs off ds))) ∧ Adv φ w φ w' := by
  obtain ⟨g, sz, arr, e, rfl, hφ, hg, hsz, hle, hX, hm, _⟩ := Plc.of_ptr hh hb r
  have hst := run_storeCells_at P g off e us 0 arr w hg (by rw [← hcs.1]; omega) h1
  simp only [Nat.add_zero] at hst
  have hsize : (arr.toList.take off ++ us ++ arr.toList.drop (off + us.length)).toArray.size = arr.size := by
    simp only [List.size_toArray, List.length_append, List.length_take, List.length_drop, Array.length_toList, ← hcs.1]; omega
  have key : ∀ (i : Nat) (x : AV), (ovw cs off ds)[i]? = some x → ∃ u, (arr.toList.take off ++ us ++ arr.toList.drop (off + us.length)).toArray[i]? = some u ∧ Rep (Rd X φ w) φ x u := by
    intro i x hx
    have hcs0 : Cs X φ w (cs.take cs.length) (arr.toList.take cs.length) := by
      refine ⟨by simp; omega, fun i c u hc hu => ?_⟩
      have hi : i < cs.length := by have := lt_of_getElem? hc; simp at this; omega
      rw [List.getElem?_take_of_lt hi] at hc hu
      obtain ⟨u', h1, h2⟩ := hm i c hc
      simp at hu
      rw [h1] at hu
      simp at hu
      subst hu
      exact h2
    rw [List.take_length] at hcs0
    have hov := hcs0.ovw hcs off
    obtain ⟨u, hu, r⟩ := hov.get hx
    refine ⟨u, ?_, r⟩
    have hi : i < cs.length := by have := lt_of_getElem? hx; rw [ovw_length hfit] at this; exact this
    have hul := hcs.1
    simp only [List.getElem?_toArray]
    rw [← hu]
    exact seg_get arr.toList us off cs.length i (by omega) (by simp; omega) hi
  obtain ⟨k1, k2⟩ := hh.store (cs' := ovw cs off ds) (arr' := (arr.toList.take off ++ us ++ arr.toList.drop (off + us.length)).toArray) hφ hg hsz hsize rfl hX
    (by rw [ovw_length hfit, hsize]; omega) key
  exact ⟨g, _, rfl, hst, k1, k2⟩
theorem ok_st {t : TypeId} {x y : Operand} {b off k : Nat} {cs : List AV} {v : AV} (hop : o.op = .store t x y) (hh : HRel X φ w H) (hb : blk H b = some cs) (hk : sizeIs P t k = true)
    (rx : Rep (Rd X φ w) φ (.ptr b off) (a.eval x)) (ry : Rep (Rd X φ w) φ v (a.eval y)) (hl : v.cells.length = k) (hfit : off + k ≤ cs.length) (hs : allLeaf v.cells = true) :
    Ok P X φ w o a .undef (H.set b (some (ovw cs off v.cells))) := by
  obtain ⟨hcs, h1⟩ := ry.cs hs
  obtain ⟨g, w', hx, hst, k1, k2⟩ := write_ok (P := P) hh hb rx hcs h1 (by omega)
  refine Ok.skip ?_ k1 k2
  unfold sizeIs at hk
  split at hk
  · rename_i i hi
    simp at hk
    have hsz : (a.eval y).cells.size = i.size := by have := hcs.1; simp at this; omega
    simp [execOp, hop, hx, Instr.storeAt, Instr.sureAddr, storeVar, run_size hi, hsz, hst]
  · cases hk

/-! Composite literals -/
theorem foldl_fill (off : Nat) : ∀ (l : List Value) (n : Nat) (arr : Array Value),
    ((l.zipIdx n).foldl (fun cs (p : Value × Nat) => cs.setIfInBounds (off + p.2) p.1) arr).size = arr.size ∧
    (off + n + l.length ≤ arr.size → ((l.zipIdx n).foldl (fun cs (p : Value × Nat) => cs.setIfInBounds (off + p.2) p.1) arr).toList = arr.toList.take (off + n) ++ l ++ arr.toList.drop (off + n + l.length))
  | [], n, arr => by simp
  | v :: r, n, arr => by
    simp only [List.zipIdx_cons, List.foldl_cons]
    obtain ⟨h1, h2⟩ := foldl_fill off r (n + 1) (arr.setIfInBounds (off + n) v)
    refine ⟨by rw [h1]; simp, fun hfit => ?_⟩
    simp only [List.length_cons] at hfit
    rw [h2 (by simp; omega)]
    apply List.ext_getElem?
    intro i
    simp only [Array.toList_setIfInBounds, List.length_cons]
    by_cases h0 : i < off + n
    · rw [List.getElem?_append_left (by simp; omega), List.getElem?_append_left (by simp; omega), List.getElem?_append_left (by simp; omega), List.getElem?_append_left (by simp; omega),
        List.getElem?_take_of_lt (by omega), List.getElem?_take_of_lt h0, List.getElem?_set_ne (by omega)]
    · by_cases h3 : i = off + n
      · subst h3
        rw [List.getElem?_append_left (by simp; omega), List.getElem?_append_left (by simp; omega), List.getElem?_append_left (by simp; omega), List.getElem?_append_right (by simp; omega),
          List.getElem?_take_of_lt (by omega), List.getElem?_set_self (by simp; omega)]
        have e1 : (arr.toList.take (off + n)).length = off + n := by simp; omega
        rw [e1]; simp
      · by_cases h4 : i < off + n + (r.length + 1)
        · rw [List.getElem?_append_left (by simp; omega), List.getElem?_append_right (by simp; omega), List.getElem?_append_left (by simp; omega), List.getElem?_append_right (by simp; omega)]
          have e1 : (arr.toList.take (off + n)).length = off + n := by simp; omega
          have e2 : ((arr.toList.set (off + n) v).take (off + (n + 1))).length = off + n + 1 := by simp; omega
          rw [e1, e2, show i - (off + n) = (i - (off + n + 1)) + 1 by omega, List.getElem?_cons_succ]
        · rw [List.getElem?_append_right (by simp; omega), List.getElem?_append_right (by simp; omega), List.getElem?_drop, List.getElem?_drop, List.getElem?_set_ne (by simp; omega)]
          congr 1
          simp only [List.length_append, List.length_take, List.length_set, Array.length_toList, List.length_cons]
          omega
theorem fill_step (v : Value) (off : Nat) (arr : Array Value) (h : off + v.cells.size ≤ arr.size) :
    (v.cells.zipIdx.foldl (fun cs (p : Value × Nat) => cs.setIfInBounds (off + p.2) p.1) arr).toList = arr.toList.take off ++ v.cells.toList ++ arr.toList.drop (off + v.cells.toList.length) := by
  have h2 := (foldl_fill off v.cells.toList 0 arr).2 (by simpa using h)
  rw [← Array.foldl_toList, Array.toList_zipIdx]
  simpa using h2
theorem fill_ok (he : ERel X φ w env a.tmps) (hg : GlOK c X φ w) {place : Nat → Option (Nat × Nat)} : ∀ {ps : List (Nat × Operand)} {qs : List (Nat × Nat × E)} {zs cs : List AV} {arr : Array Value},
    chkPs place ps qs = true → Cs X φ w zs arr.toList → fillA c env zs qs = some cs → ∃ arr', Instr.fill place arr (ps.map fun p => (p.1, a.eval p.2)) = some arr' ∧ Cs X φ w cs arr'.toList
  | [], [], zs, cs, arr, _, hz, hf => by simp [fillA] at hf; subst hf; exact ⟨arr, rfl, hz⟩
  | [], _ :: _, _, _, _, h, _, _ => by simp [chkPs] at h
  | _ :: _, [], _, _, _, h, _, _ => by simp [chkPs] at h
  | (i, x) :: r, (off, sz, y) :: s, zs, cs, arr, h, hz, hf => by
    simp only [chkPs, Bool.and_eq_true, decide_eq_true_eq] at h
    obtain ⟨⟨hp, hx⟩, hrest⟩ := h
    simp only [fillA] at hf
    split at hf
    · rename_i hc
      obtain ⟨h1, h2, h3⟩ := hc
      obtain ⟨hcs, _⟩ := (eval_rep he hg hx).cs h3
      have hsz : (a.eval x).cells.size = sz := by have := hcs.1; simp at this; omega
      have hzl : zs.length = arr.size := by simpa using hz.1
      have hstep := fill_step (a.eval x) off arr (by omega)
      have hcs2 : Cs X φ w (ovw zs off (ev c env y).cells) ((a.eval x).cells.zipIdx.foldl (fun cs (p : Value × Nat) => cs.setIfInBounds (off + p.2) p.1) arr).toList := by
        rw [hstep]; exact hz.ovw hcs off
      obtain ⟨arr', e1, e2⟩ := fill_ok he hg hrest hcs2 hf
      refine ⟨arr', ?_, e2⟩
      simp only [List.map_cons, Instr.fill, hp]
      rw [if_neg (by simp [hsz]; omega)]
      exact e1
    · cases hf

theorem run_places (fs : List Field) (h : ∀ f ∈ fs, (P.info? f.type).isSome = true) :
    (fs.mapM (m := Sem) fun f => do pure (f.offset, ← sizeOf f.type)).run P w = .ok (fs.map fun f => (f.offset, ((P.info? f.type).map (·.size)).getD 0)) w := by
  induction fs with
  | nil => rfl
  | cons f r ih =>
    obtain ⟨i, hi⟩ := Option.isSome_iff_exists.1 (h f (by simp))
    have ih' := ih fun g hg => h g (by simp [hg])
    simp only [List.mapM_cons, Sem.run_bind, run_size hi, Result.andThen_ok, Sem.run_pure, ih', List.map_cons, hi, Option.map_some, Option.getD_some]
theorem ok_build {t : TypeId} {ps : Array (Nat × Operand)} {qs : List (Nat × Nat × E)} {zs cs : List AV} (hop : o.op = .build t ps) (hh : HRel X φ w H) (he : ERel X φ w env a.tmps) (hg : GlOK c X φ w)
    (hz : zeroIs P t zs = true) (hu : (match P.underlying t with
    | some (.struct fs) => (fs.toList.all fun f => (P.info? f.type).isSome) && chkPs (structPlace P fs) ps.toList qs
    | some (.array _ e) => match P.info? e with
      | some i => chkPs (fun j => some (j * i.size, i.size)) ps.toList qs
      | none => false
    | _ => false) = true) (hf : fillA c env zs qs = some cs) : Ok P X φ w o a (.agg cs) H := by
  obtain ⟨i, z, hi, hz, hcs, _⟩ := zeroIs_cs (X := X) (φ := φ) (w := w) hz
  split at hu
  · rename_i fs hut
    simp only [Bool.and_eq_true, List.all_eq_true] at hu
    obtain ⟨arr', e1, e2⟩ := fill_ok he hg hu.2 hcs hf
    refine Ok.quiet (v' := .agg arr') ?_ (.agg _ _ _ (by simpa using e2.1) fun i c v hc hv => e2.2 i c v hc (by simpa using hv)) hh
    have hpl := run_places (P := P) (w := w) fs.toList hu.1
    have hpl2 : (fs.mapM (m := Sem) fun f => do pure (f.offset, ← sizeOf f.type)).run P w = .ok (fs.toList.map fun f => (f.offset, ((P.info? f.type).map (·.size)).getD 0)).toArray w := by
      rw [← Array.toArray_toList (xs := fs), List.mapM_toArray]
      simp only [Sem.run_map, hpl, Result.andThen_ok, Array.toArray_toList]
    have hplace : (fun j => ((fs.toList.map fun f => (f.offset, ((P.info? f.type).map (·.size)).getD 0)).toArray)[j]?) = structPlace P fs := by
      funext j
      simp only [List.getElem?_toArray, List.getElem?_map, Array.getElem?_toList, structPlace]
      cases hfj : fs[j]? with
      | none => rfl
      | some f =>
        obtain ⟨i, hi⟩ := Option.isSome_iff_exists.1 (hu.1 f (Array.mem_toList_iff.2 (Array.mem_of_getElem? hfj)))
        simp [hi]
    simp only [execOp, hop, Instr.build, Sem.run_bind, run_zero hi hz, Result.andThen_ok, run_underlying hut, hpl2, hplace]
    have : (Array.map (fun x => (x.1, a.eval x.2)) ps).toList = ps.toList.map fun p => (p.1, a.eval p.2) := by simp
    simp only [this, e1, Sem.run_pure, Result.andThen_ok]
  · rename_i n e hut
    split at hu
    · rename_i ie hie
      obtain ⟨arr', e1, e2⟩ := fill_ok he hg hu hcs hf
      refine Ok.quiet (v' := .agg arr') ?_ (.agg _ _ _ (by simpa using e2.1) fun i c v hc hv => e2.2 i c v hc (by simpa using hv)) hh
      have : (Array.map (fun x => (x.1, a.eval x.2)) ps).toList = ps.toList.map fun p => (p.1, a.eval p.2) := by simp
      simp only [execOp, hop, Instr.build, Sem.run_bind, run_zero hi hz, Result.andThen_ok, run_underlying hut, run_size hie, this, e1, Sem.run_pure]
    · cases hu
  · cases hu

theorem rep_get (zs : List AV) : ∀ (n i : Nat), i < n * zs.length → (rep zs n)[i]? = zs[i % zs.length]?
  | 0, i, h => by simp at h
  | n + 1, i, h => by
    rw [rep]
    by_cases hi : i < zs.length
    · rw [List.getElem?_append_left hi, Nat.mod_eq_of_lt hi]
    · rw [List.getElem?_append_right (by omega), rep_get zs n _ (by rw [Nat.add_mul] at h; omega), ← Nat.mod_eq_sub_mod (by omega)]
theorem rep_length (zs : List AV) : ∀ n, (rep zs n).length = n * zs.length
  | 0 => by simp [rep]
  | n + 1 => by rw [rep, List.length_append, rep_length zs n, Nat.add_mul]; omega
theorem rep_leaf {zs : List AV} (h : allLeaf zs = true) : ∀ n, allLeaf (rep zs n) = true := by
  have app : ∀ {a b : List AV}, allLeaf a = true → allLeaf b = true → allLeaf (a ++ b) = true := by
    intro a
    induction a with
    | nil => intro b _ hb; exact hb
    | cons x r ih => intro b ha hb; simp only [allLeaf, Bool.and_eq_true, List.cons_append] at *; exact ⟨ha.1, ih ha.2 hb⟩
  intro n
  induction n with
  | zero => rfl
  | succ n ih => exact app h ih
theorem rep_cs {zs : List AV} {z : Array Value} (h : Cs X φ w zs z.toList) {n m : Nat} (hm : n * z.size ≤ m) {arr : Array Value} (hz : arr.size = m) (ha : ∀ i, i < m → arr[i]? = some (z[i % z.size]!)) :
    ∀ (i : Nat) (c : AV), (rep zs n)[i]? = some c → ∃ u, arr[i]? = some u ∧ Rep (Rd X φ w) φ c u := by
  intro i c hc
  have hzl : zs.length = z.size := by simpa using h.1
  have hi : i < n * zs.length := by have := lt_of_getElem? hc; rwa [rep_length] at this
  rw [rep_get zs n i hi] at hc
  rw [hzl] at hc hi
  refine ⟨_, ha i (by omega), ?_⟩
  obtain ⟨u, hu, r⟩ := h.get hc
  simp at hu
  rw [getElem!_def, hu]
  exact r
theorem ok_bslice {t : TypeId} {n k : Nat} {ps : Array (Nat × Operand)} {qs : List (Nat × Nat × E)} {zs cs : List AV} (hop : o.op = .buildSlice t n ps) (hh : HRel X φ w H) (he : ERel X φ w env a.tmps) (hg : GlOK c X φ w)
    (hk : elemIs P t k = true) (hz : elemZero P t zs = true) (hn : n * k ≤ 16777216) (hq : chkPs (fun j => some (j * k, k)) ps.toList qs = true) (hf : fillA c env (rep zs n) qs = some cs) :
    Ok P X φ w o a (.sl k H.length 0 n) (H ++ [some cs]) := by
  obtain ⟨e, i, z, hu, hi, hik, hk0, hby, hiz, hzk⟩ := elemIs_spec hk
  simp only [elemZero, hu] at hz
  obtain ⟨i', z', hi', hz', hcs, _⟩ := zeroIs_cs (X := X) (φ := φ) (w := w) hz
  rw [hi] at hi'
  simp at hi'
  subst hi'
  rw [hiz] at hz'
  simp at hz'
  subst hz'
  have hzl : zs.length = k := by have := hcs.1; simp at this; omega
  have hcs0 : Cs X φ w (rep zs n) ((Array.range (n * k)).map (z.cells[· % z.cells.size]!)).toList := by
    refine ⟨by rw [rep_length, hzl]; simp, fun j c v hc hv => ?_⟩
    obtain ⟨u, h1, h2⟩ := rep_cs hcs (n := n) (m := n * k) (by rw [hzk]; omega) (arr := (Array.range (n * k)).map (z.cells[· % z.cells.size]!)) (by simp) (fun i hi => by simp [hi]) j c hc
    rw [Array.getElem?_toList, h1] at hv
    simp at hv
    subst hv
    exact h2
  obtain ⟨arr', e1, e2⟩ := fill_ok he hg hq hcs0 hf
  have hsz : arr'.size = n * k := by
    have fl : ∀ {ps : List (Nat × Nat × E)} {zs cs : List AV}, fillA c env zs ps = some cs → cs.length = zs.length := by
      intro ps
      induction ps with
      | nil => intro zs cs h; simp [fillA] at h; rw [h]
      | cons p r ih =>
        intro zs cs h
        obtain ⟨o, s, y⟩ := p
        simp only [fillA] at h
        split at h
        · rename_i hc; rw [ih h, ovw_length (by omega)]
        · cases h
    have h1 := fl hf
    have h2 := e2.1
    simp only [Array.length_toList] at h2
    rw [← h2, h1, rep_length, hzl]
  obtain ⟨h1, h2⟩ := alloc_ok hh (w1 := w) (arr := arr') (e := e) rfl rfl rfl rfl (by rw [e2.1]; simp) (e2.at (by simp))
  refine Ok.value ?_ (new_sl hh.len (Nat.le_refl n) (by omega)) h1 h2
  have hps : (Array.map (fun x => (x.1, a.eval x.2)) ps).toList = ps.toList.map fun p => (p.1, a.eval p.2) := by simp
  have hn' : ¬ (n * k > 2 ^ 24) := by have : (2:Nat) ^ 24 = 16777216 := by decide
                                      omega
  have hzero : (if n * i.size = 0 then (pure #[] : Sem (Array Value)) else do pure (← zeroValue e).cells).run P w = .ok (if n * k = 0 then #[] else z.cells) w := by
    rw [hik]
    split <;> simp [run_zero hi hiz]
  have hcells : (Array.range (n * k)).map ((if n * k = 0 then #[] else z.cells)[· % (if n * k = 0 then #[] else z.cells).size]!) = (Array.range (n * k)).map (z.cells[· % z.cells.size]!) := by
    by_cases h0 : n * k = 0
    · simp [h0]
    · simp [h0]
  simp only [execOp, hop, Instr.buildSlice, Sem.run_bind, run_underlying hu, Result.andThen_ok, run_size hi, hik, Sem.run_ite, hn', if_false]
  rw [hik] at hzero
  simp only [Sem.run_ite, Sem.run_bind, Sem.run_pure, run_zero hi hiz, Result.andThen_ok] at hzero ⊢
  have e1' := e1
  rw [← hcells, ← hps] at e1'
  split
  · rename_i h0
    simp only [h0, if_true] at e1' ⊢
    simp only [Result.andThen_ok, Array.range_zero', Array.map_empty] at e1' ⊢
    rw [show (Instr.fill (fun i => some (i * k, k)) #[] (Array.map (fun x => (x.1, a.eval x.2)) ps).toList) = some arr' from e1']
    simp [newRow]
  · rename_i h0
    simp only [h0, if_false, Result.andThen_ok] at e1' ⊢
    rw [show (Instr.fill (fun i => some (i * k, k)) ((Array.range (n * k)).map (z.cells[· % z.cells.size]!)) (Array.map (fun x => (x.1, a.eval x.2)) ps).toList) = some arr' from e1']
    simp [newRow]
end
end Go.Am
