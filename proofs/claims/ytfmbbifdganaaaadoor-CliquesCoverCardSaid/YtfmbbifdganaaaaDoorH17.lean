/- The walk over cliques: what it hands out, in order. -/
import Derived.Test.YtfmbbifdganaaaaDoorH14
set_option linter.unusedSimpArgs false
set_option linter.unusedVariables false
set_option maxRecDepth 100000
set_option maxHeartbeats 8000000
namespace Go.BmP
open Go.Am Go.Bm
theorem get_cv1 (a b : Nat) (t : Bool) (x : Env) (i : Nat) (h : 7 < i) : opnd cfgS (cv1 a b t x) (.t i) = lend i (Am.get x i) := by
 unfold cv1 opnd
 simp only [get_cons', if_neg (show i ≠ 0 by omega), if_neg (show i ≠ 1 by omega), if_neg (show i ≠ 2 by omega), if_neg (show i ≠ 3 by omega), if_neg (show i ≠ 4 by omega), if_neg (show i ≠ 6 by omega), if_neg (show i ≠ 7 by omega)]
theorem get_cv0 (a b : Nat) (t : Bool) (x : Env) (i : Nat) (h : 7 < i) : opnd cfgS (cv0 a b t x) (.t i) = lend i (Am.get x i) := by
 unfold cv0 opnd
 simp only [get_cons', if_neg (show i ≠ 0 by omega), if_neg (show i ≠ 1 by omega), if_neg (show i ≠ 2 by omega), if_neg (show i ≠ 3 by omega), if_neg (show i ≠ 4 by omega), if_neg (show i ≠ 5 by omega), if_neg (show i ≠ 6 by omega), if_neg (show i ≠ 7 by omega)]
section
variable {N : Nat} {Es : List Ed} (h : GOK (N : Int) Es)
include h
omit h in
theorem lst_lt {P : List Int} (hP : IsC N Es P) : lst P < (N : Int) /\ -1 <= lst P := by
 rcases List.eq_nil_or_concat P with e | ⟨Q, w, e⟩
 ·rw [e]; simp [lst]; omega
 ·rw [List.concat_eq_append] at e
  rw [e, lst_snoc]
  have := hP.bd w (by rw [e]; simp)
  omega
theorem prune_loop {x1 x2 caps : List AV} (q1 : Plain x1) (q2 : Plain x2) (q3 : PlainC caps) (nT : Nat) (after P : List Int) {a : Nat} (ha : a < 18446744073709551616) (b : Nat) (t : Bool) : ∀ (C : List Int) (m : Nat), m < 18446744073709551616 -> bitL m = C -> (∀ x ∈ C, 0 <= x /\ x < (N : Int)) -> codeL cfgS 9 (.loop lQRX0) ⟨cv1 a b t [(12, .int .u64 (m : Int))], kH N Es x1 x2 nT caps after P⟩ = if (C.any fun x => decide (a &&& (18446744073709551615 - (adjE N Es).getD x.toNat 0) = 0)) = true then some (.ret, ⟨[(11, .bool true)], kH N Es x1 x2 nT caps after P⟩) else some (.exit 0, ⟨cv1 a b t [(12, .int .u64 ((0 : Nat) : Int)), (45, .bool false)], kH N Es x1 x2 nT caps after P⟩)
 | [], m, hm, hC, hb => by
   obtain rfl : m = 0 := (bitL_nil hm).1 hC
   rw [List.any_nil, if_neg (by decide)]
   refine loop_exit ?_
   unfold lQRX0
   rw [codeL_seq, codeL_seq, cX4z N Es q1 q2 q3, thenL_n, codeL_cnd, get_cv1 _ _ _ _ _ (by decide)]
   show thenL cfgS 9 _ (codeL cfgS 9 (.exit 0) _) = _
   rw [codeL_exit, thenL_e]
 | v :: C, m, hm, hC, hb => by
   have h0 : m ≠ 0 := by rintro rfl; rw [bitL_zero] at hC; cases hC
   have hst := bitL_step h0 hm
   rw [hC] at hst
   obtain ⟨hv, hC'⟩ : v = ((tz m : Nat) : Int) /\ C = bitL (m &&& (m - 1)) := by simpa using hst
   have ih := prune_loop q1 q2 q3 nT after P ha b t C (m &&& (m - 1)) (Nat.lt_of_le_of_lt Nat.and_le_left hm) hC'.symm (fun x hx => hb x (by simp [hx]))
   have a5 := cX5 h q1 q2 q3 nT after P ha b t h0 hm hv (hb v (by simp))
   rw [List.any_cons]
   cases k : decide (a &&& (18446744073709551615 - (adjE N Es).getD v.toNat 0) = 0) with
   | true =>
     rw [k] at a5
     rw [Bool.true_or, if_pos rfl]
     refine loop_ret ?_
     unfold lQRX0
     rw [codeL_seq, codeL_seq, cX4 N Es q1 q2 q3 nT after P a b t h0, thenL_n, codeL_cnd, get_cv1 _ _ _ _ _ (by decide)]
     show thenL cfgS 9 _ (codeL cfgS 9 .skip _) = _
     rw [codeL_skip, thenL_n, codeL_seq, codeL_blk, codeL_seq, a5, thenL_n, codeL_cnd, get_cv1 _ _ _ _ _ (by decide)]
     show thenL cfgS 9 _ (blkL 1 (codeL cfgS 9 (.seq _ .ret) _)) = _
     rw [codeL_seq, cX6 N Es q1 q2 q3, thenL_n, codeL_ret, blkL_r, thenL_r]
   | false =>
     rw [k] at a5
     rw [Bool.false_or]
     refine (loop_next ?_).trans ih
     unfold lQRX0
     rw [codeL_seq, codeL_seq, cX4 N Es q1 q2 q3 nT after P a b t h0, thenL_n, codeL_cnd, get_cv1 _ _ _ _ _ (by decide)]
     show thenL cfgS 9 _ (codeL cfgS 9 .skip _) = _
     rw [codeL_skip, thenL_n, codeL_seq, codeL_blk, codeL_seq, a5, thenL_n, codeL_cnd, get_cv1 _ _ _ _ _ (by decide)]
     show thenL cfgS 9 _ (blkL 1 (codeL cfgS 9 .skip _)) = _
     rw [codeL_skip, blkL_n, thenL_n]
     exact cX7 N Es q1 q2 q3 nT after P a b t h0 hm
variable {x1 caps : List AV} {nT : Nat} {after : List Int} {σ : Type} {X2 : σ -> List AV} {tk : σ -> List Int -> σ × Bool} {Inv : σ -> Prop} (hT : TakeK N Es after x1 nT caps X2 tk Inv)
def CallK {σ : Type} (N : Nat) (Es : List Ed) (after : List Int) (x1 : List AV) (nT : Nat) (caps : List AV) (X2 : σ -> List AV) (tk : σ -> List Int -> σ × Bool) (Inv : σ -> Prop) (n : Nat) (P : List Int) (t : Bool) (s : σ) : Prop :=
 callL cfgS nQR (kA (mo N Es P) (le N Es P) t) (kH N Es x1 (X2 s) nT caps after P) = some (.bool (foldS tk (innK N Es after n P t) s).2, kH N Es x1 (X2 (foldS tk (innK N Es after n P t) s).1) nT caps after P) /\ ((foldS tk (innK N Es after n P t) s).2 = true -> Inv (foldS tk (innK N Es after n P t) s).1)
include hT
theorem try_loop (hA : after.length < 9223372036854775808) {P : List Int} (hP : IsC N Es P) (n : Nat) (t : Bool) (hin : ∀ v ∈ bitL (mo N Es P), ∀ (t2 : Bool) (s : σ), Inv s -> CallK N Es after x1 nT caps X2 tk Inv n (P ++ [v]) t2 s) : ∀ (C : List Int) (m : Nat) (s : σ), m < 18446744073709551616 -> bitL m = C -> (∀ v ∈ C, v ∈ bitL (mo N Es P)) -> Inv s -> ∀ R, R = foldS tk (C.flatMap fun v => if skipL after P t v = true then [] else innK N Es after n (P ++ [v]) (onL after P t v)) s -> (R.2 = true -> codeL cfgS 9 (.loop lQRX1) ⟨cv1 (mo N Es P) (le N Es P) t [(13, .int .u64 (m : Int))], kH N Es x1 (X2 s) nT caps after P⟩ = some (.exit 2, ⟨cv1 (mo N Es P) (le N Es P) t [(13, .int .u64 ((0 : Nat) : Int)), (60, .bool false)], kH N Es x1 (X2 R.1) nT caps after P⟩) /\ Inv R.1) /\ (R.2 = false -> codeL cfgS 9 (.loop lQRX1) ⟨cv1 (mo N Es P) (le N Es P) t [(13, .int .u64 (m : Int))], kH N Es x1 (X2 s) nT caps after P⟩ = some (.ret, ⟨[(11, .bool false)], kH N Es x1 (X2 R.1) nT caps after P⟩))
 | [], m, s, hm, hC, hb, hs, R, hR => by
   obtain rfl : m = 0 := (bitL_nil hm).1 hC
   subst hR
   refine ⟨fun _ => ⟨loop_exit ?_, hs⟩, fun k => by cases k⟩
   unfold lQRX1
   rw [codeL_seq, codeL_seq, cX9z N Es hT.px1 (hT.px2 _) hT.cp, thenL_n, codeL_cnd, get_cv1 _ _ _ _ _ (by decide)]
   show thenL cfgS 9 _ (codeL cfgS 9 (.exit 2) _) = _
   rw [codeL_exit, thenL_e]
   rfl
 | v :: C, m, s, hm, hC, hb, hs, R, hR => by
   have hn := gok_n h
   have h0 : m ≠ 0 := by rintro rfl; rw [bitL_zero] at hC; cases hC
   have hst := bitL_step h0 hm
   rw [hC] at hst
   obtain ⟨hv, hC'⟩ : v = ((tz m : Nat) : Int) /\ C = bitL (m &&& (m - 1)) := by simpa using hst
   have hvm := hb v (by simp)
   have bP := isC_bd h hP
   obtain ⟨hvb, _, hvl⟩ := (moL_mem h bP v).1 hvm
   have cQ := (isC_snoc h hP hvm).1
   have lP : P.length <= 64 := up_len hP.up bP
   have a9 := cX9 N Es hT.px1 (hT.px2 s) hT.cp nT after P (mo N Es P) (le N Es P) t h0
   have a10 := cX10 N Es hT.px1 (hT.px2 s) hT.cp nT after P (mo N Es P) (le N Es P) t h0 hm
   rw [<- hv] at a10
   have a11 := cX11 N Es hT.px1 (hT.px2 s) hT.cp nT after P (mo N Es P) (le N Es P) t (m : Int) v
   have a12 := cX12 N Es hT.px1 (hT.px2 s) hT.cp nT after P (mo N Es P) (le N Es P) t hA (m : Int) v
   have ih := fun s hs => try_loop hA hP n t hin C (m &&& (m - 1)) s (Nat.lt_of_le_of_lt Nat.and_le_left hm) hC'.symm (fun x hx => hb x (by simp [hx])) hs _ rfl
   rw [List.flatMap_cons, foldS_app] at hR
   cases sk : skipL after P t v with
   | true =>
     rw [sk, if_pos rfl] at hR
     have hR : R = foldS tk (C.flatMap fun v => if skipL after P t v = true then [] else innK N Es after n (P ++ [v]) (onL after P t v)) s := hR
     rw [sk] at a12
     have e : codeL cfgS 9 lQRX1 ⟨cv1 (mo N Es P) (le N Es P) t [(13, .int .u64 (m : Int))], kH N Es x1 (X2 s) nT caps after P⟩ = some (.normal, ⟨cv1 (mo N Es P) (le N Es P) t [(13, .int .u64 ((m &&& (m - 1) : Nat) : Int))], kH N Es x1 (X2 s) nT caps after P⟩) := by
      unfold lQRX1
      rw [codeL_seq, codeL_seq, a9, thenL_n, codeL_cnd, get_cv1 _ _ _ _ _ (by decide)]
      show thenL cfgS 9 _ (codeL cfgS 9 .skip _) = _
      rw [codeL_skip, thenL_n, codeL_seq, codeL_blk, codeL_seq, a10, thenL_n, codeL_seq, a11, thenL_n, codeL_seq, codeL_seq, a12, thenL_n, codeL_cnd, get_cv1 _ _ _ _ _ (by decide)]
      show thenL cfgS 9 _ (blkL 3 (thenL cfgS 9 _ (codeL cfgS 9 (.exit 3) _))) = _
      rw [codeL_exit, thenL_e, blkL_e, if_pos rfl, thenL_n]
      exact cX20 N Es hT.px1 (hT.px2 s) hT.cp nT after P (mo N Es P) (le N Es P) t h0 hm _ (.inr ⟨v, hereL after P t, rfl⟩)
     rw [loop_next e, hR]
     exact ih s hs
   | false =>
     rw [sk, if_neg (show ¬ (false = true) by decide)] at hR
     rw [sk] at a12
     have hc := hin v hvm (onL after P t v) s hs
     unfold CallK at hc
     generalize foldS tk (innK N Es after n (P ++ [v]) (onL after P t v)) s = Q at *
     obtain ⟨hc1, hc2⟩ := hc
     have a13 := cX13 N Es hT.px1 (hT.px2 s) hT.cp nT after P (mo N Es P) (le N Es P) t hA (m : Int) v
     have a14 := cX14 N Es hT.px1 (hT.px2 s) hT.cp nT after P (mo N Es P) (le N Es P) t (by omega) (m : Int) v (onL after P t v)
     have a15 := cX15 N Es hT.px1 (hT.px2 s) hT.cp nT after (P ++ [v]) (mo N Es P) (le N Es P) t (m : Int) hvb.1 (by omega) (onL after P t v)
     have a16 := cX16 h hT.px1 (hT.px2 s) hT.cp nT after (P ++ [v]) (mo_lt h P) (le N Es P) t (le_lt h P) (hT.px2 Q.1) (m : Int) hvb (onL after P t v) Q.2 (mo_snoc h bP ⟨hvb.1, by omega⟩ hvl) (le_snoc h bP ⟨hvb.1, by omega⟩ hvl) hc1
     have a17 := cX17 N Es hT.px1 (hT.px2 Q.1) hT.cp nT after P (mo N Es P) (le N Es P) t (by omega) (m : Int) v Q.2
     have a18 := cX18 N Es hT.px1 (hT.px2 Q.1) hT.cp nT after P (mo N Es P) (le N Es P) t (m : Int) Q.2
     have e : codeL cfgS 9 lQRX1 ⟨cv1 (mo N Es P) (le N Es P) t [(13, .int .u64 (m : Int))], kH N Es x1 (X2 s) nT caps after P⟩ = if Q.2 = true then some (.normal, ⟨cv1 (mo N Es P) (le N Es P) t [(13, .int .u64 ((m &&& (m - 1) : Nat) : Int))], kH N Es x1 (X2 Q.1) nT caps after P⟩) else some (.ret, ⟨[(11, .bool false)], kH N Es x1 (X2 Q.1) nT caps after P⟩) := by
      unfold lQRX1
      rw [codeL_seq, codeL_seq, a9, thenL_n, codeL_cnd, get_cv1 _ _ _ _ _ (by decide)]
      show thenL cfgS 9 _ (codeL cfgS 9 .skip _) = _
      rw [codeL_skip, thenL_n, codeL_seq, codeL_blk, codeL_seq, a10, thenL_n, codeL_seq, a11, thenL_n, codeL_seq, codeL_seq, a12, thenL_n, codeL_cnd, get_cv1 _ _ _ _ _ (by decide)]
      show thenL cfgS 9 _ (blkL 3 (thenL cfgS 9 _ (codeL cfgS 9 .skip _))) = _
      rw [codeL_skip, thenL_n, codeL_seq, a13, thenL_n, codeL_seq, a14, thenL_n, codeL_seq, a15, thenL_n, codeL_seq, a16, thenL_n, codeL_seq, a17, thenL_n, codeL_seq, a18, thenL_n, codeL_cnd, get_cv1 _ _ _ _ _ (by decide)]
      cases q : Q.2 with
      | true =>
        show thenL cfgS 9 _ (blkL 3 (codeL cfgS 9 .skip _)) = _
        rw [codeL_skip, blkL_n, thenL_n, if_pos rfl]
        exact cX20 N Es hT.px1 (hT.px2 Q.1) hT.cp nT after P (mo N Es P) (le N Es P) t h0 hm _ (.inl rfl)
      | false =>
        show thenL cfgS 9 _ (blkL 3 (codeL cfgS 9 (.seq _ .ret) _)) = _
        rw [Bool.not_false, codeL_seq, cX19 N Es hT.px1 (hT.px2 Q.1) hT.cp, thenL_n, codeL_ret, blkL_r, thenL_r, if_neg (by decide)]
     by_cases q : Q.2 = true
     ·rw [if_pos q] at hR e
      rw [loop_next e, hR]
      exact ih Q.1 (hc2 q)
     ·rw [if_neg q] at hR e
      subst hR
      rw [loop_ret e]
      exact ⟨fun k => (by cases k), fun _ => rfl⟩
theorem inner_run (hA : after.length < 9223372036854775808) : ∀ (n : Nat) (P : List Int) (t : Bool) (s : σ), IsC N Es P -> (N : Int) - lst P <= n -> Inv s -> CallK N Es after x1 nT caps X2 tk Inv n P t s
 | 0, P, t, s, hP, hf, hs => by
   have := lst_lt hP
   omega
 | n + 1, P, t, s, hP, hf, hs => by
   have bP := isC_bd h hP
   have lP : P.length <= 64 := up_len hP.up bP
   have hH : ∀ s, (kH N Es x1 (X2 s) nT caps after P).length = 9 := fun _ => rfl
   have st : callL cfgS nQR (kA (mo N Es P) (le N Es P) t) (kH N Es x1 (X2 s) nT caps after P) = endL cfgS ⟨true, false, false⟩ qQR 9 (codeL cfgS 9 cQR ⟨cv0 (mo N Es P) (le N Es P) t [], kH N Es x1 (X2 s) nT caps after P⟩) := by
    rw [callL_end oQR sQR (Nat.le_of_ble_eq_true rfl)]
    rfl
   unfold CallK
   rw [st]
   have fin : ∀ (s2 : σ) (g : Bool), endL cfgS ⟨true, false, false⟩ qQR 9 (some (.ret, ⟨[(11, .bool g)], kH N Es x1 (X2 s2) nT caps after P⟩)) = some (.bool g, kH N Es x1 (X2 s2) nT caps after P) := fun s2 g => cEnd N Es hT.px1 (hT.px2 s2) hT.cp nT after P g
   by_cases k1 : mo N Es P = 0
   ·-- nothing can be added
    have run : ∀ z, codeL cfgS 9 (.reg rQRX2 true [(0, 0), (1, 1), (2, 2), (3, 3), (4, 4), (5, 5), (6, 6), (7, 7), (8, 8), (9, 9), (14, 14), (15, 15), (16, 16), (17, 17), (21, 21), (22, 22), (23, 23), (10, 12), (11, 12), (10, 13), (18, 19), (18, 20)] [11]) ⟨cv0 0 (le N Es P) t [(19, .bool true)], kH N Es x1 (X2 s) nT caps after P⟩ = some (.normal, z) -> codeL cfgS 9 cQR ⟨cv0 (mo N Es P) (le N Es P) t [], kH N Es x1 (X2 s) nT caps after P⟩ = some (.ret, z) := by
     intro z hz
     unfold cQR
     rw [codeL_seq, cX0 N Es hT.px1 (hT.px2 s) hT.cp, thenL_n, k1, codeL_seq, codeL_seq, cX1z N Es hT.px1 (hT.px2 s) hT.cp nT after P 0, thenL_n, codeL_cnd, get_cv0 _ _ _ _ _ (by decide)]
     show thenL cfgS 9 _ (codeL cfgS 9 (.seq _ .ret) _) = _
     rw [codeL_seq, hz, thenL_n, codeL_ret, thenL_r]
    by_cases k2 : le N Es P ≠ 0 \/ P = [] \/ (t = true /\ P.length <= after.length)
    ·have ei : innK N Es after (n + 1) P t = [] := by unfold innK; rw [if_pos k1, if_pos k2]
     rw [ei, run _ (cX2n N Es hT.px1 (hT.px2 s) hT.cp nT after P (le N Es P) t k2), fin]
     exact ⟨rfl, fun _ => hs⟩
    ·have ei : innK N Es after (n + 1) P t = [P] := by unfold innK; rw [if_pos k1, if_neg k2]
     simp only [not_or, ne_eq, Decidable.not_not] at k2
     have l0 := k2.1
     rw [l0] at run ⊢
     have ef : foldS tk [P] s = ((tk s P).1, (tk s P).2) := by
      show (if (tk s P).2 = true then ((tk s P).1, true) else ((tk s P).1, false)) = _
      cases (tk s P).2 <;> rfl
     rw [ei, ef, run _ (cX2t hT hs k2.2.1 lP t k2.2.2), fin]
     exact ⟨rfl, fun k => hT.inv s P hs k2.2.1 lP k⟩
   ·have a1 := cX1 N Es hT.px1 (hT.px2 s) hT.cp nT after P (mo N Es P) (le N Es P) t k1
    have a3 := cX3 N Es hT.px1 (hT.px2 s) hT.cp nT after P (mo N Es P) (le N Es P) t
    have pl := prune_loop h hT.px1 (hT.px2 s) hT.cp nT after P (mo_lt h P) (le N Es P) t (bitL (le N Es P)) (le N Es P) (le_lt h P) rfl (fun x hx => ((leL_mem h bP x).1 hx).1)
    have ep : ((bitL (le N Es P)).any fun x => decide (mo N Es P &&& (18446744073709551615 - (adjE N Es).getD x.toNat 0) = 0)) = prn N Es P := rfl
    rw [ep] at pl
    have run : codeL cfgS 9 cQR ⟨cv0 (mo N Es P) (le N Es P) t [], kH N Es x1 (X2 s) nT caps after P⟩ = thenL cfgS 9 (.seq (.seq (.reg rQRX8 false [] [0, 1, 2, 3, 4, 6, 7, 13]) (.blk 2 (.loop lQRX1))) (.seq (.reg rQRX21 false [] [11]) .ret)) (blkL 0 (codeL cfgS 9 (.loop lQRX0) ⟨cv1 (mo N Es P) (le N Es P) t [(12, .int .u64 (le N Es P : Int))], kH N Es x1 (X2 s) nT caps after P⟩)) := by
     unfold cQR
     rw [codeL_seq, cX0 N Es hT.px1 (hT.px2 s) hT.cp, thenL_n, codeL_seq, codeL_seq, a1, thenL_n, codeL_cnd, get_cv0 _ _ _ _ _ (by decide)]
     show thenL cfgS 9 _ (codeL cfgS 9 .skip _) = _
     rw [codeL_skip, thenL_n, codeL_seq, codeL_seq, a3, thenL_n, codeL_blk]
    rw [run, pl]
    by_cases k2 : prn N Es P = true
    ·have ei : innK N Es after (n + 1) P t = [] := by unfold innK; rw [if_neg k1, if_pos k2]
     rw [if_pos k2, blkL_r, thenL_r, fin, ei]
     exact ⟨rfl, fun _ => hs⟩
    ·have ei : innK N Es after (n + 1) P t = (bitL (mo N Es P)).flatMap fun v => if skipL after P t v = true then [] else innK N Es after n (P ++ [v]) (onL after P t v) := by
      conv => lhs; unfold innK
      rw [if_neg k1, if_neg k2]
     have lp := try_loop h hT hA hP n t (fun v hv t2 s2 hs2 => by
      obtain ⟨c1, c2⟩ := isC_snoc h hP hv
      exact inner_run hA n (P ++ [v]) t2 s2 c1 (by rw [lst_snoc]; omega) hs2) (bitL (mo N Es P)) (mo N Es P) s (mo_lt h P) rfl (fun v hv => hv) hs _ rfl
     rw [<- ei] at lp
     generalize foldS tk (innK N Es after (n + 1) P t) s = R at *
     rw [if_neg k2, blkL_e, if_pos rfl, thenL_n, codeL_seq, codeL_seq, cX8 N Es hT.px1 (hT.px2 s) hT.cp, thenL_n, codeL_blk]
     by_cases q : R.2 = true
     ·obtain ⟨e, hi⟩ := lp.1 q
      rw [e, blkL_e, if_pos rfl, thenL_n, codeL_seq, cX21 N Es hT.px1 (hT.px2 R.1) hT.cp, thenL_n, codeL_ret, fin, q]
      exact ⟨rfl, fun _ => hi⟩
     ·have q := Bool.eq_false_iff.2 q
      rw [lp.2 q, blkL_r, thenL_r, fin, q]
      exact ⟨rfl, fun k => by cases k⟩
end
end Go.BmP
