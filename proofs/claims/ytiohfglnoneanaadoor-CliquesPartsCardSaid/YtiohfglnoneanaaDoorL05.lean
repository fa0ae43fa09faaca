/- The law of parts: the cliques of an induced graph, and extending step by step. -/
import Derived.Test.YtiohfglnoneanaaDoorL01
import Derived.Test.YtiohfglnoneanaaDoorL02
import Derived.Test.YtiohfglnoneanaaDoorL04
import Derived.Test.YtiohfglnoneanaaDoorH18
import Derived.Test.YtiohfglnoneanaaDoorR02c
set_option linter.unusedSimpArgs false
set_option linter.unusedVariables false
set_option maxRecDepth 100000
set_option maxHeartbeats 4000000
namespace Go.BmP
open Go.Am Go.Bm
theorem awake24 : callL cfgS nLaw24Awake [] [] = some (.bool true, []) := callL_iff.2 ⟨3000, by kernel_rfl⟩
section
variable {N : Nat} {Es : List Ed} (h : GOK (N : Int) Es)
include h
theorem gok_filter (p : Ed → Bool) : GOK (N : Int) (Es.filter p) := ⟨h.1, h.2.1.filter p, fun e he => h.2.2 e (List.mem_filter.1 he).1⟩
theorem induced_ok {s : List Int} (hb : ∀ v ∈ s, 0 ≤ v ∧ v < 64) {S : List Int} (hS : S ∈ mcl N (Es.filter (inM (msk s)))) (h1 : 1 < S.length) : (S.all fun x => decide (x ∈ s)) = true ∧ isB N Es S = true := by
  have m := ((mcl_mem (gok_filter h _)).1 hS).1
  have sub : ∀ a b, jn (Es.filter (inM (msk s))) a b → jn Es a b ∧ a ∈ s ∧ b ∈ s := by
    intro a b k
    have key : ∀ e : Ed, e ∈ Es.filter (inM (msk s)) → e ∈ Es ∧ e.1 ∈ s ∧ e.2 ∈ s := fun e he => by
      obtain ⟨e1, e2⟩ := List.mem_filter.1 he
      have b := h.2.2 e e1
      unfold inM at e2
      rw [Bool.and_eq_true, msk_bit (fun v hv => (hb v hv).1), msk_bit (fun v hv => (hb v hv).1), decide_eq_true_eq, decide_eq_true_eq, show ((e.1.toNat : Nat) : Int) = e.1 by omega, show ((e.2.toNat : Nat) : Int) = e.2 by omega] at e2
      exact ⟨e1, e2⟩
    rcases k with k | k
    · have := key _ k; exact ⟨.inl this.1, this.2.1, this.2.2⟩
    · have := key _ k; exact ⟨.inr this.1, this.2.2, this.2.1⟩
  constructor
  · rw [List.all_eq_true]
    intro x hx
    refine decide_eq_true ?_
    obtain ⟨i, hi, rfl⟩ := List.getElem_of_mem hx
    have ad := List.pairwise_iff_getElem.1 m.ad
    by_cases e : i = 0
    · subst e
      exact (sub _ _ (ad 0 1 hi h1 (by omega))).2.1
    · exact (sub _ _ (ad 0 i (by omega) hi (by omega))).2.2
  · exact isB_iff.2 ⟨m.up, m.bd, m.ad.imp fun {a b} k => (sub a b k).1⟩
theorem minus_ext {c : List Int} (hc : IsC N Es c) : minus (extK N Es c) c = grd N Es c := by
  obtain ⟨_, e2, _, _⟩ := extK_spec h hc.q
  obtain ⟨g1, g2, _, _⟩ := grd_spec h hc.q
  refine up_ext (minus_spec _ _).1 g1 fun x => ?_
  rw [(minus_spec _ _).2, e2]
  constructor
  · rintro ⟨k | k, q⟩
    · exact absurd k q
    · exact k
  · intro k
    refine ⟨.inr k, fun q => ?_⟩
    exact jn_irr h x (((cnL_mem h (fun x hx => (hc.bd x hx).1) x).1 (g2 x k)).2 x q)
theorem ext_step {c T : List Int} {v : Int} (hc : IsC N Es c) (e : grd N Es c = v :: T) : IsC N Es (uni c [v]) ∧ extK N Es (uni c [v]) = extK N Es c := by
  have h0 : cn N Es c ≠ 0 := by
    intro k
    rw [grd_zero k] at e
    cases e
  obtain ⟨w, hw, hq, ew⟩ := grd_step h hc.q h0
  rw [e] at ew
  obtain ⟨rfl, hT⟩ : v = w ∧ T = grd N Es (c ++ [w]) := by simpa using ew
  obtain ⟨u1, u2⟩ := uni_spec c [v]
  have mem : ∀ x, x ∈ uni c [v] ↔ x ∈ c ++ [v] := fun x => by rw [u2, List.mem_append]
  have bd : ∀ x ∈ uni c [v], 0 ≤ x ∧ x < (N : Int) := fun x hx => hq.bd x ((mem x).1 hx)
  have cC : IsC N Es (uni c [v]) := by
    refine ⟨u1, bd, ?_⟩
    have hp : (uni c [v]).Perm (c ++ [v]) := (List.perm_ext_iff_of_nodup (u1.imp fun {a b} k e => by subst e; omega) (isQ_nodup h hq)).2 mem
    exact (hp.pairwise_iff fun {a b} k => jn_symm k).2 hq.ad
  refine ⟨cC, ?_⟩
  have ecn : cn N Es (uni c [v]) = cn N Es (c ++ [v]) := cn_congr h (fun x hx => (bd x hx).1) (fun x hx => (hq.bd x hx).1) mem
  have eg : grd N Es (uni c [v]) = grd N Es (c ++ [v]) := by unfold grd; rw [ecn]
  obtain ⟨s1, s2, _, _⟩ := extK_spec h cC.q
  obtain ⟨t1, t2, _, _⟩ := extK_spec h hc.q
  refine up_ext s1 t1 fun x => ?_
  rw [s2, t2, mem, eg, e, hT]
  simp only [List.mem_append, List.mem_cons, List.not_mem_nil, or_false]
  constructor
  · rintro ((k | k) | k)
    · exact .inl k
    · exact .inr (.inl k)
    · exact .inr (.inr k)
  · rintro (k | k | k)
    · exact .inl (.inl k)
    · exact .inl (.inr k)
    · exact .inr k
theorem ext_max (hN : 0 < N) {c : List Int} (hc : IsC N Es c) : maxB N Es (extK N Es c) = true := by
  obtain ⟨s1, s2, s3, s4⟩ := extK_spec h hc.q
  have ne : extK N Es c ≠ [] := by
    by_cases k : c = []
    · have h0 : cn N Es c ≠ 0 := by
        subst k
        have : (0 : Nat) < N := hN
        intro e
        have := (cn_bit h (P := []) (by simp) 0).2 ⟨hN, by simp⟩
        rw [e] at this
        simp at this
      obtain ⟨v, _, _, e⟩ := grd_step h hc.q h0
      exact List.ne_nil_of_mem ((s2 v).2 (.inr (by rw [e]; simp)))
    · obtain ⟨x, hx⟩ := List.exists_mem_of_ne_nil _ k
      exact List.ne_nil_of_mem ((s2 x).2 (.inl hx))
  unfold maxB
  rw [isB_iff.2 s3, s4]
  simp [ne]
end
def gb (N : Nat) (Es : List Ed) : Blk := some [.int .i64 N, .list 2 (eds Es)]
theorem rest_gb (N : Nat) (Es : List Ed) : Rest [gb N Es] := ⟨fun _ => rfl, rfl, fun _ _ => rfl, fun _ => rfl, fun _ _ => rfl⟩
section
attribute [local simp] codeL_seq codeL_reg codeL_blk codeL_skip codeL_ret codeL_exit codeL_cnd condL_b thenL_n thenL_e thenL_r blkL_n blkL_e blkL_r regL_s opsB stepB opB opP opnd opnds lend lendC get_nil' get_cons' put_nil' put_cons' mem_nil' mem_cons' putdB putB slowP hasOwn hasOwnL finO relab anyB anyE anyH anyR borOf borL inSlot HAND endR hasOwnE endK keepIn trim noPtr noPtrL noPtrE noPtrH binA arith unA eqB isNilB eqc lenB bndB bnd rdN rdc AV.cells fillB peek ldOK AV.leaf allLeaf fz pl plL drawB allCW cwF okDrawB okPair Fq.ok dstOff wrOff notSlot noneIn apartR oldBoxes O.reads Kd.reads E.slot slots slotO slotsP List.getD pairIn nilL okRes clean cleanL resV resVs tupOf mkEnv partsBor doCallB inpB getArgs doCallO frzA frzV frzL minA minF cont ownAt at_ setAt rel dropS relC dropAll frzP frzAll firstBor borIn borC borS borE borH handTo mapSt mapE mapH mapB mapBL sw rt fb mvB mvRt seesP inRt isRoot rootOf boxOf seesB rootsL Am.rep ovw flatCells_ints allLeaf_ints flatCells el grp updE isNilB inpV inpL stB okL unA orcA bndB plL_ints fzL stBox inCells wrap0 wrap1 wrapm1 take_snoc BIGB
theorem pt_one {N : Nat} {Es : List Ed} (h : GOK (N : Int) Es) (hE : Es.length ≤ 10000) (l : List Int) (a : Nat) (s : List Int) (hs : s.length ≤ 64) (o : List (List Int)) (ho : ∀ S ∈ o, S.length ≤ 64) (hok : ∀ S ∈ o, 1 < S.length → (S.all fun x => decide (x ∈ s)) = true ∧ isB N Es S = true) (hl : o.length ≤ 4096) : ∀ (k i : Nat), i + k = o.length → codeL cfgS 0 (.loop lLaw24CliquesPartsX0) ⟨[(4, .ptr 1 0), (5, .list 1 (ints s)), (7, .int .i64 0), (9, .int .i64 0), (41, .list 1 (lls o)), (42, .int .i64 o.length), (43, .int .i64 i)], [dk l a, gb N Es]⟩ =
    some (.exit 0, ⟨[(4, .ptr 1 0), (5, .list 1 (ints s)), (7, .int .i64 0), (9, .int .i64 0), (41, .list 1 (lls o)), (42, .int .i64 o.length), (43, .int .i64 o.length), (44, .bool false)], [dk l a, gb N Es]⟩)
  | 0, i, hi => by
    obtain rfl : i = o.length := by omega
    exact loop_exit (by unfold lLaw24CliquesPartsX0 dk gb; simp [rLaw24CliquesPartsX0, rLaw24CliquesPartsX1, rLaw24CliquesPartsX2, rLaw24CliquesPartsX3, rLaw24CliquesPartsX4, rLaw24CliquesPartsX5, rLaw24CliquesPartsX6, rLaw24CliquesPartsX7, rLaw24CliquesPartsX8, rLaw24CliquesPartsX9, rLaw24CliquesPartsX10, rLaw24CliquesPartsX11, rLaw24CliquesPartsX12, rLaw24CliquesPartsX13, rLaw24CliquesPartsX14, rLaw24CliquesPartsX15, rLaw24CliquesPartsX16, rLaw24CliquesPartsX17, rLaw24CliquesPartsX18, rLaw24CliquesPartsX19, rLaw24CliquesPartsX20, rLaw24CliquesPartsX21, rLaw24CliquesPartsX22, rLaw24CliquesPartsX23, rLaw24CliquesPartsX24, rLaw24CliquesPartsX25, rLaw24CliquesPartsX26, rLaw24CliquesPartsX27, blk, eds_length, eds_get, edsAt, edAV, allLeaf_eds, cleanL_eds, cleanL_ints, ints_length, ints_get, intsAt, endL, finB])
  | k + 1, i, hi => by
    have hlt : i < o.length := by omega
    have h1 : (i : Int) < o.length := by omega
    have hw := wrapS (i := i) (by omega)
    have ih := pt_one h hE l a s hs o ho hok hl k (i + 1) (by omega)
    have lx := ho o[i] (List.getElem_mem hlt)
    have hx := hok o[i] (List.getElem_mem hlt)
    have wi := within_run o[i] s (by omega) (by omega)
    have is := is_run h (by omega) o[i] (by omega)
    have i1 := idx_lt (k := .i64) (i := (i : Int)) (n := o.length) (by omega) h1
    have g1 : ∀ h, (lls o)[i]'h = AV.list 1 (ints o[i]) := fun h => llsAt ..
    have g2 := lls_length o
    have g3 : (lls o)[i]? = some (.list 1 (ints o[i])) := by rw [lls_get, List.getElem?_eq_getElem hlt]; rfl
    refine (loop_next ?_).trans ih
    clear ih
    unfold dk gb
    generalize lls o = X at *
    generalize o[i] = S at *
    by_cases q : 1 < S.length
    · obtain ⟨q1, q2⟩ := hx q
      rw [q1] at wi
      rw [q2] at is
      have q' : (1 : Int) < S.length := by omega
      unfold lLaw24CliquesPartsX0
      simp [rLaw24CliquesPartsX0, rLaw24CliquesPartsX1, rLaw24CliquesPartsX2, rLaw24CliquesPartsX3, rLaw24CliquesPartsX4, rLaw24CliquesPartsX5, rLaw24CliquesPartsX6, rLaw24CliquesPartsX7, rLaw24CliquesPartsX8, rLaw24CliquesPartsX9, rLaw24CliquesPartsX10, rLaw24CliquesPartsX11, rLaw24CliquesPartsX12, rLaw24CliquesPartsX13, rLaw24CliquesPartsX14, rLaw24CliquesPartsX15, rLaw24CliquesPartsX16, rLaw24CliquesPartsX17, rLaw24CliquesPartsX18, rLaw24CliquesPartsX19, rLaw24CliquesPartsX20, rLaw24CliquesPartsX21, rLaw24CliquesPartsX22, rLaw24CliquesPartsX23, rLaw24CliquesPartsX24, rLaw24CliquesPartsX25, rLaw24CliquesPartsX26, rLaw24CliquesPartsX27, h1, hlt, hw, i1, g1, g2, g3, wi, is, q, q', sRef02Within, iRef02Within, sCliquesIs, iCliquesIs, blk, eds_length, eds_get, edsAt, edAV, allLeaf_eds, cleanL_eds, cleanL_ints, ints_length, ints_get, intsAt, endL, finB]
    · have q' : ¬ (1 : Int) < S.length := by omega
      have q2 : S.length ≤ 1 := by omega
      unfold lLaw24CliquesPartsX0
      simp [rLaw24CliquesPartsX0, rLaw24CliquesPartsX1, rLaw24CliquesPartsX2, rLaw24CliquesPartsX3, rLaw24CliquesPartsX4, rLaw24CliquesPartsX5, rLaw24CliquesPartsX6, rLaw24CliquesPartsX7, rLaw24CliquesPartsX8, rLaw24CliquesPartsX9, rLaw24CliquesPartsX10, rLaw24CliquesPartsX11, rLaw24CliquesPartsX12, rLaw24CliquesPartsX13, rLaw24CliquesPartsX14, rLaw24CliquesPartsX15, rLaw24CliquesPartsX16, rLaw24CliquesPartsX17, rLaw24CliquesPartsX18, rLaw24CliquesPartsX19, rLaw24CliquesPartsX20, rLaw24CliquesPartsX21, rLaw24CliquesPartsX22, rLaw24CliquesPartsX23, rLaw24CliquesPartsX24, rLaw24CliquesPartsX25, rLaw24CliquesPartsX26, rLaw24CliquesPartsX27, h1, hlt, hw, i1, g1, g2, g3, q, q', q2, blk, eds_length, eds_get, edsAt, edAV, allLeaf_eds, cleanL_eds, cleanL_ints, ints_length, ints_get, intsAt, endL, finB]
end
/-- The clique so far. -/
def CurV (A : AV) (c : List Int) : Prop := (A = .own 1 [] ∧ c = []) ∨ A = .list 1 (ints c)
def ptSt (l : List Int) (a : Nat) (N : Nat) (Es : List Ed) (A : AV) (k : Int) (J : Env) : St := ⟨(4, .ptr 1 0) :: (7, .int .i64 0) :: (9, .int .i64 0) :: (12, A) :: (13, .int .i64 k) :: J, [dk l a, gb N Es]⟩
section
attribute [local simp] codeL_seq codeL_reg codeL_blk codeL_skip codeL_ret codeL_exit codeL_cnd condL_b thenL_n thenL_e thenL_r blkL_n blkL_e blkL_r regL_s opsB stepB opB opP opnd opnds lend lendC get_nil' get_cons' put_nil' put_cons' mem_nil' mem_cons' putdB putB slowP hasOwn hasOwnL finO relab anyB anyE anyH anyR borOf borL inSlot HAND endR hasOwnE endK keepIn trim noPtr noPtrL noPtrE noPtrH binA arith unA eqB isNilB eqc lenB bndB bnd rdN rdc AV.cells fillB peek ldOK AV.leaf allLeaf fz pl plL drawB allCW cwF okDrawB okPair Fq.ok dstOff wrOff notSlot noneIn apartR oldBoxes O.reads Kd.reads E.slot slots slotO slotsP List.getD pairIn nilL okRes clean cleanL resV resVs tupOf mkEnv partsBor doCallB inpB getArgs doCallO frzA frzV frzL minA minF cont ownAt at_ setAt rel dropS relC dropAll frzP frzAll firstBor borIn borC borS borE borH handTo mapSt mapE mapH mapB mapBL sw rt fb mvB mvRt seesP inRt isRoot rootOf boxOf seesB rootsL Am.rep ovw flatCells_ints allLeaf_ints flatCells el grp updE isNilB inpV inpL stB okL unA orcA bndB plL_ints fzL stBox inCells wrap0 wrap1 wrapm1 take_snoc BIGB
theorem pt_two {N : Nat} {Es : List Ed} (h : GOK (N : Int) Es) (hE : Es.length ≤ 10000) (l : List Int) (a : Nat) : ∀ (n k : Nat) (A : AV) (c : List Int), k + n = N → CurV A c → IsC N Es c → ∃ A' k' J, codeL cfgS 0 (.loop lLaw24CliquesPartsX1) (ptSt l a N Es A k []) = some (.exit 2, ptSt l a N Es A' k' J) ∧ (J = [(66, .bool false)] ∨ ∃ x, J = [(14, .list 1 (ints x)), (16, .list 1 []), (88, .bool true)]) ∧ ∃ c', CurV A' c'
  | 0, k, A, c, hk, hA, hc => by
    obtain rfl : k = N := by omega
    refine ⟨A, k, [(66, .bool false)], loop_exit ?_, .inl rfl, c, hA⟩
    unfold lLaw24CliquesPartsX1 ptSt dk gb
    rcases hA with ⟨rfl, rfl⟩ | rfl
    · simp [rLaw24CliquesPartsX0, rLaw24CliquesPartsX1, rLaw24CliquesPartsX2, rLaw24CliquesPartsX3, rLaw24CliquesPartsX4, rLaw24CliquesPartsX5, rLaw24CliquesPartsX6, rLaw24CliquesPartsX7, rLaw24CliquesPartsX8, rLaw24CliquesPartsX9, rLaw24CliquesPartsX10, rLaw24CliquesPartsX11, rLaw24CliquesPartsX12, rLaw24CliquesPartsX13, rLaw24CliquesPartsX14, rLaw24CliquesPartsX15, rLaw24CliquesPartsX16, rLaw24CliquesPartsX17, rLaw24CliquesPartsX18, rLaw24CliquesPartsX19, rLaw24CliquesPartsX20, rLaw24CliquesPartsX21, rLaw24CliquesPartsX22, rLaw24CliquesPartsX23, rLaw24CliquesPartsX24, rLaw24CliquesPartsX25, rLaw24CliquesPartsX26, rLaw24CliquesPartsX27, blk, eds_length, eds_get, edsAt, edAV, allLeaf_eds, cleanL_eds, cleanL_ints, ints_length, ints_get, intsAt, endL, finB]
    · simp [rLaw24CliquesPartsX0, rLaw24CliquesPartsX1, rLaw24CliquesPartsX2, rLaw24CliquesPartsX3, rLaw24CliquesPartsX4, rLaw24CliquesPartsX5, rLaw24CliquesPartsX6, rLaw24CliquesPartsX7, rLaw24CliquesPartsX8, rLaw24CliquesPartsX9, rLaw24CliquesPartsX10, rLaw24CliquesPartsX11, rLaw24CliquesPartsX12, rLaw24CliquesPartsX13, rLaw24CliquesPartsX14, rLaw24CliquesPartsX15, rLaw24CliquesPartsX16, rLaw24CliquesPartsX17, rLaw24CliquesPartsX18, rLaw24CliquesPartsX19, rLaw24CliquesPartsX20, rLaw24CliquesPartsX21, rLaw24CliquesPartsX22, rLaw24CliquesPartsX23, rLaw24CliquesPartsX24, rLaw24CliquesPartsX25, rLaw24CliquesPartsX26, rLaw24CliquesPartsX27, blk, eds_length, eds_get, edsAt, edAV, allLeaf_eds, cleanL_eds, cleanL_ints, ints_length, ints_get, intsAt, endL, finB]
  | n + 1, k, A, c, hk, hA, hc => by
    have hN : 0 < N := by omega
    have hn := gok_n h
    have h1 : (k : Int) < N := by omega
    have hw := wrapS (i := k) (by omega)
    have lc : c.length ≤ 64 := up_len hc.up (isC_bd h hc)
    obtain ⟨s1, s2, s3, s4⟩ := extK_spec h hc.q
    have lx : (extK N Es c).length ≤ 64 := up_len s1 (isC_bd h s3)
    have ex := ext_run h hN (by omega) c hc
    have mx := max_run h (by omega) (extK N Es c) (by omega)
    rw [ext_max h hN hc] at mx
    have mi := minus_run (extK N Es c) c (by omega) (by omega)
    rw [minus_ext h hc] at mi
    cases eg : grd N Es c with
    | nil =>
      rw [eg, ints_nil] at mi
      refine ⟨.list 1 (ints c), k, [(14, .list 1 (ints (extK N Es c))), (16, .list 1 []), (88, .bool true)], loop_exit ?_, .inr ⟨_, rfl⟩, c, .inr rfl⟩
      unfold lLaw24CliquesPartsX1 ptSt dk gb
      generalize extK N Es c = x at *
      rcases hA with ⟨rfl, rfl⟩ | rfl
      · rw [ints_nil] at ex mi ⊢
        simp [rLaw24CliquesPartsX0, rLaw24CliquesPartsX1, rLaw24CliquesPartsX2, rLaw24CliquesPartsX3, rLaw24CliquesPartsX4, rLaw24CliquesPartsX5, rLaw24CliquesPartsX6, rLaw24CliquesPartsX7, rLaw24CliquesPartsX8, rLaw24CliquesPartsX9, rLaw24CliquesPartsX10, rLaw24CliquesPartsX11, rLaw24CliquesPartsX12, rLaw24CliquesPartsX13, rLaw24CliquesPartsX14, rLaw24CliquesPartsX15, rLaw24CliquesPartsX16, rLaw24CliquesPartsX17, rLaw24CliquesPartsX18, rLaw24CliquesPartsX19, rLaw24CliquesPartsX20, rLaw24CliquesPartsX21, rLaw24CliquesPartsX22, rLaw24CliquesPartsX23, rLaw24CliquesPartsX24, rLaw24CliquesPartsX25, rLaw24CliquesPartsX26, rLaw24CliquesPartsX27, h1, ex, mx, mi, sCliquesExtend, iCliquesExtend, sCliquesMaximal, iCliquesMaximal, sRef02Minus, iRef02Minus, blk, eds_length, eds_get, edsAt, edAV, allLeaf_eds, cleanL_eds, cleanL_ints, ints_length, ints_get, intsAt, endL, finB]
      · simp [rLaw24CliquesPartsX0, rLaw24CliquesPartsX1, rLaw24CliquesPartsX2, rLaw24CliquesPartsX3, rLaw24CliquesPartsX4, rLaw24CliquesPartsX5, rLaw24CliquesPartsX6, rLaw24CliquesPartsX7, rLaw24CliquesPartsX8, rLaw24CliquesPartsX9, rLaw24CliquesPartsX10, rLaw24CliquesPartsX11, rLaw24CliquesPartsX12, rLaw24CliquesPartsX13, rLaw24CliquesPartsX14, rLaw24CliquesPartsX15, rLaw24CliquesPartsX16, rLaw24CliquesPartsX17, rLaw24CliquesPartsX18, rLaw24CliquesPartsX19, rLaw24CliquesPartsX20, rLaw24CliquesPartsX21, rLaw24CliquesPartsX22, rLaw24CliquesPartsX23, rLaw24CliquesPartsX24, rLaw24CliquesPartsX25, rLaw24CliquesPartsX26, rLaw24CliquesPartsX27, h1, ex, mx, mi, sCliquesExtend, iCliquesExtend, sCliquesMaximal, iCliquesMaximal, sRef02Minus, iRef02Minus, blk, eds_length, eds_get, edsAt, edAV, allLeaf_eds, cleanL_eds, cleanL_ints, ints_length, ints_get, intsAt, endL, finB]
    | cons v T =>
      obtain ⟨c1, c2⟩ := ext_step h hc eg
      rw [eg] at mi
      have un := union_run c [v] (by simp; omega)
      have ex2 := ext_run h hN (by omega) (uni c [v]) c1
      rw [c2] at ex2
      have cm := cmp_run (extK N Es c) (extK N Es c) (by omega) (by omega)
      rw [cmpL_zero.2 rfl] at cm
      obtain ⟨A', k', J, e, hJ, hA'⟩ := pt_two h hE l a n (k + 1) (.list 1 (ints (uni c [v]))) (uni c [v]) (by omega) (.inr rfl) c1
      refine ⟨A', k', J, (loop_next ?_).trans e, hJ, hA'⟩
      have ev : ints [v] = [.int .i64 v] := rfl
      rw [ev] at un
      have ct : ints (v :: T) = .int .i64 v :: ints T := rfl
      rw [ct] at mi
      have lT : ¬ ((T.length : Int) + 1 = 0) := by omega
      have lT2 : (1 : Int) ≤ (T.length : Int) + 1 := by omega
      unfold lLaw24CliquesPartsX1 ptSt dk gb
      clear e eg
      generalize extK N Es c = x at *
      generalize uni c [v] = u at *
      rcases hA with ⟨rfl, rfl⟩ | rfl
      · rw [ints_nil] at ex mi un
        simp [rLaw24CliquesPartsX0, rLaw24CliquesPartsX1, rLaw24CliquesPartsX2, rLaw24CliquesPartsX3, rLaw24CliquesPartsX4, rLaw24CliquesPartsX5, rLaw24CliquesPartsX6, rLaw24CliquesPartsX7, rLaw24CliquesPartsX8, rLaw24CliquesPartsX9, rLaw24CliquesPartsX10, rLaw24CliquesPartsX11, rLaw24CliquesPartsX12, rLaw24CliquesPartsX13, rLaw24CliquesPartsX14, rLaw24CliquesPartsX15, rLaw24CliquesPartsX16, rLaw24CliquesPartsX17, rLaw24CliquesPartsX18, rLaw24CliquesPartsX19, rLaw24CliquesPartsX20, rLaw24CliquesPartsX21, rLaw24CliquesPartsX22, rLaw24CliquesPartsX23, rLaw24CliquesPartsX24, rLaw24CliquesPartsX25, rLaw24CliquesPartsX26, rLaw24CliquesPartsX27, h1, hw, ex, mx, mi, un, ex2, cm, lT, lT2, List.take_succ_cons, List.take_zero, sCliquesExtend, iCliquesExtend, sCliquesMaximal, iCliquesMaximal, sRef02Minus, iRef02Minus, sRef02Union, iRef02Union, sRef02Cmp, iRef02Cmp, blk, eds_length, eds_get, edsAt, edAV, allLeaf_eds, cleanL_eds, cleanL_ints, ints_length, ints_get, intsAt, endL, finB]
      · simp [rLaw24CliquesPartsX0, rLaw24CliquesPartsX1, rLaw24CliquesPartsX2, rLaw24CliquesPartsX3, rLaw24CliquesPartsX4, rLaw24CliquesPartsX5, rLaw24CliquesPartsX6, rLaw24CliquesPartsX7, rLaw24CliquesPartsX8, rLaw24CliquesPartsX9, rLaw24CliquesPartsX10, rLaw24CliquesPartsX11, rLaw24CliquesPartsX12, rLaw24CliquesPartsX13, rLaw24CliquesPartsX14, rLaw24CliquesPartsX15, rLaw24CliquesPartsX16, rLaw24CliquesPartsX17, rLaw24CliquesPartsX18, rLaw24CliquesPartsX19, rLaw24CliquesPartsX20, rLaw24CliquesPartsX21, rLaw24CliquesPartsX22, rLaw24CliquesPartsX23, rLaw24CliquesPartsX24, rLaw24CliquesPartsX25, rLaw24CliquesPartsX26, rLaw24CliquesPartsX27, h1, hw, ex, mx, mi, un, ex2, cm, lT, lT2, List.take_succ_cons, List.take_zero, sCliquesExtend, iCliquesExtend, sCliquesMaximal, iCliquesMaximal, sRef02Minus, iRef02Minus, sRef02Union, iRef02Union, sRef02Cmp, iRef02Cmp, blk, eds_length, eds_get, edsAt, edAV, allLeaf_eds, cleanL_eds, cleanL_ints, ints_length, ints_get, intsAt, endL, finB]
theorem parts_law (l : List Int) : callL cfgS nLaw24CliquesParts [.list 1 (ints l)] [] = some (.bool true, []) := by
  rw [callL_end oLaw24CliquesParts sLaw24CliquesParts (Nat.le_of_ble_eq_true rfl)]
  have aw := awake24
  have few := few_run l
  by_cases hl : (l.length : Int) ≤ 500
  case neg =>
    unfold qLaw24CliquesParts cLaw24CliquesParts
    simp [rLaw24CliquesPartsX0, rLaw24CliquesPartsX1, rLaw24CliquesPartsX2, rLaw24CliquesPartsX3, rLaw24CliquesPartsX4, rLaw24CliquesPartsX5, rLaw24CliquesPartsX6, rLaw24CliquesPartsX7, rLaw24CliquesPartsX8, rLaw24CliquesPartsX9, rLaw24CliquesPartsX10, rLaw24CliquesPartsX11, rLaw24CliquesPartsX12, rLaw24CliquesPartsX13, rLaw24CliquesPartsX14, rLaw24CliquesPartsX15, rLaw24CliquesPartsX16, rLaw24CliquesPartsX17, rLaw24CliquesPartsX18, rLaw24CliquesPartsX19, rLaw24CliquesPartsX20, rLaw24CliquesPartsX21, rLaw24CliquesPartsX22, rLaw24CliquesPartsX23, rLaw24CliquesPartsX24, rLaw24CliquesPartsX25, rLaw24CliquesPartsX26, rLaw24CliquesPartsX27, few, hl, aw, sMakeFew, iMakeFew, sLaw24Awake, iLaw24Awake, blk, eds_length, eds_get, edsAt, edAV, allLeaf_eds, cleanL_eds, cleanL_ints, ints_length, ints_get, intsAt, endL, finB]
  have hl5 : l.length ≤ 500 := by omega
  have n1 := new_run l
  obtain ⟨N, Es, a1, n2, hG, hN, hEl⟩ := graph_run l hl5 8 (by omega) 0
  obtain ⟨s, a2, n3, sl, su, sb⟩ := set_run l hl5 N (by omega) [gb N Es] (rest_gb N Es) a1
  have sb64 : ∀ v ∈ s, 0 ≤ v ∧ v < 64 := fun v hv => by have := sb v hv; omega
  have ind := induced_run hG (by omega) s (by omega) sb64
  have hH := gok_filter hG (inM (msk s))
  have hHl : (Es.filter (inM (msk s))).length ≤ 10000 := Nat.le_trans (List.length_filter_le _ _) hEl
  have al := allK_run hH (by omega) 4096
  have q1 : (mcl N (Es.filter (inM (msk s)))).length ≤ 4096 := by
    have f := mcl_few hH
    have : 2 ^ N ≤ 2 ^ 8 := Nat.pow_le_pow_right (by decide) hN
    omega
  have ev : allK N (Es.filter (inM (msk s))) 4096 = .tup [.list 1 (lls (mcl N (Es.filter (inM (msk s))))), .int .i64 0] := by
    unfold allK
    rw [if_neg (by omega), if_pos (by omega)]
  rw [ev] at al
  have ob : ∀ S ∈ mcl N (Es.filter (inM (msk s))), S.length ≤ 64 := fun S hS => by
    have m := ((mcl_mem hH).1 hS).1
    exact up_len m.up (isC_bd hH m)
  have lp := pt_one hG hEl l a2 s (by omega) _ ob (fun S hS k => induced_ok hG sb64 hS k) q1 _ 0 (Nat.zero_add _)
  obtain ⟨A', k', J, lq, hJ, c', hA'⟩ := pt_two hG hEl l a2 N 0 (.own 1 []) [] (by omega) (.inl ⟨rfl, rfl⟩) ⟨List.Pairwise.nil, by simp, List.Pairwise.nil⟩
  have g2 := lls_length (mcl N (Es.filter (inM (msk s))))
  unfold ptSt at lq
  rw [nat0] at lp lq
  unfold dk gb at *
  simp only [nat0, show ((8 : Nat) : Int) = 8 from rfl] at n1 n2
  clear ev ob hH hHl q1
  generalize (mcl N (Es.filter (inM (msk s)))).length = n at *
  generalize lls (mcl N (Es.filter (inM (msk s)))) = X at *
  generalize Es.filter (inM (msk s)) = F at *
  unfold qLaw24CliquesParts cLaw24CliquesParts
  rcases hJ with rfl | ⟨x, rfl⟩ <;> rcases hA' with ⟨rfl, rfl⟩ | rfl <;> simp [rLaw24CliquesPartsX0, rLaw24CliquesPartsX1, rLaw24CliquesPartsX2, rLaw24CliquesPartsX3, rLaw24CliquesPartsX4, rLaw24CliquesPartsX5, rLaw24CliquesPartsX6, rLaw24CliquesPartsX7, rLaw24CliquesPartsX8, rLaw24CliquesPartsX9, rLaw24CliquesPartsX10, rLaw24CliquesPartsX11, rLaw24CliquesPartsX12, rLaw24CliquesPartsX13, rLaw24CliquesPartsX14, rLaw24CliquesPartsX15, rLaw24CliquesPartsX16, rLaw24CliquesPartsX17, rLaw24CliquesPartsX18, rLaw24CliquesPartsX19, rLaw24CliquesPartsX20, rLaw24CliquesPartsX21, rLaw24CliquesPartsX22, rLaw24CliquesPartsX23, rLaw24CliquesPartsX24, rLaw24CliquesPartsX25, rLaw24CliquesPartsX26, rLaw24CliquesPartsX27, few, hl, n1, n2, n3, ind, al, lp, lq, g2, aw, sMakeFew, iMakeFew, sMakeNew, iMakeNew, sMakeGraph, iMakeGraph, sMakeSet, iMakeSet, sGraphInduced, iGraphInduced, sCliquesAll, iCliquesAll, sLaw24Awake, iLaw24Awake, plp, plpL, allB, notBox, swC, swS, seesC, inBox, relB, handBox, mvBB, mvRtB, blk, eds_length, eds_get, edsAt, edAV, allLeaf_eds, cleanL_eds, cleanL_ints, ints_length, ints_get, intsAt, endL, finB]
end
end Go.BmP
