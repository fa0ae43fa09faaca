/- The library's sort by `most` is sound in the older machine. -/
import Derived.Test.YtjfdniggjdnkiaaRzC
import Derived.Test.YtjfdniggjdnkiaaSrfO
import Derived.Test.YtjfdniggjdnkiaaLaySrn
set_option linter.unusedSimpArgs false
set_option linter.unusedVariables false
set_option maxRecDepth 100000
namespace Go.AmP
open Go.Am Go.Sort Go.Shelf Go.Proofs Go.RowKit Go.Lib
open Go.Bm (pr2 cfM isortC isortC_perm isortC_length isortC_asc totM leC swoC inn otr needs rz fl fl_len fl_app fl_drop fl_set Cel flat2 flat2_length enc2)
abbrev P64 := { x : Int × Int // 0 <= x.1 /\ x.1 < 64 /\ 0 <= x.2 /\ x.2 < 64 }
instance : Inhabited P64 := ⟨⟨(0, 0), by decide⟩⟩
def encP (x : P64) : List Value := enc2 x.1
def cfQ (x y : P64) : Int := cfM x.1 y.1
theorem swoQ : SWO (ltOf cfQ) := ⟨fun x => (swoC totM).irrefl x.1, fun x y z => (swoC totM).trans x.1 y.1 z.1, fun x y z => (swoC totM).ntrans x.1 y.1 z.1⟩
theorem totQ (x y : P64) (h1 : (ltOf cfQ) x y = false) (h2 : (ltOf cfQ) y x = false) : x = y := Subtype.ext (Go.Bm.totC totM x.1 y.1 h1 h2)
theorem flatP_get : ∀ (zs : List P64) (t : Nat), t < zs.length * 2 -> (encP (zs.toArray[t / 2]!))[t % 2]! = Value.int .i64 ((flat2 (zs.map Subtype.val))[t]!)
 | [], t, h => by simp at h
 | x :: r, 0, h => by simp [encP, enc2, flat2]
 | x :: r, 1, h => by simp [encP, enc2, flat2]
 | x :: r, t + 2, h => by
   have ih := flatP_get r t (by simp at h; omega)
   have e1 : (t + 2) / 2 = t / 2 + 1 := by omega
   have e2 : (t + 2) % 2 = t % 2 := by omega
   rw [e1, e2]
   have e3 : (x :: r).toArray[t / 2 + 1]! = r.toArray[t / 2]! := by simp
   have e4 : (flat2 ((x :: r).map Subtype.val))[t + 2]! = (flat2 (r.map Subtype.val))[t]! := by simp [flat2]
   rw [e3, e4]; exact ih
theorem flatP_eq (zs : List P64) : flatK encP 2 zs.toArray = ((flat2 (zs.map Subtype.val)).toArray.map (Value.int .i64)) := by
 apply Array.ext
 ·simp [flat2_length]
 ·intro t h1 h2
  have ht : t < zs.length * 2 := by simpa using h1
  have g := get_flatK encP 2 zs.toArray t (by simpa using ht)
  rw [getElem!_pos _ t h1] at g
  rw [g, flatP_get zs t ht]
  have hl : t < (flat2 (zs.map Subtype.val)).length := by rw [flat2_length]; simpa using ht
  simp [getElem!_pos, hl]
theorem holdsP {w : World} {g off : Nat} {zs : List P64} (h : Holds (Value.int .i64) w g off (flat2 (zs.map Subtype.val)).toArray) : HoldsK encP 2 w g off zs.toArray := by
 unfold HoldsK
 rw [flatP_eq]
 intro j hj
 have hj' : j < (flat2 (zs.map Subtype.val)).toArray.size := by simpa using hj
 obtain ⟨a, b⟩ := h j hj'
 refine ⟨?_, b⟩
 rw [a]
 have hj2 : j < (flat2 (zs.map Subtype.val)).length := by simpa using hj'
 simp [getElem!_pos, hj2]
theorem putRowP (w : World) (g off : Nat) (zs : List P64) : putRowK encP 2 w g off zs.toArray = putRow (Value.int .i64) w g off (flat2 (zs.map Subtype.val)).toArray := by
 unfold putRowK putRow
 rw [flatP_eq]
 congr 1
 funext c
 unfold putCells
 apply Array.ext
 ·simp
 ·intro k h1 h2
  simp only [Array.getElem_mapIdx, Array.size_map]
  split
  ·rename_i h
   have hk : k - off < (flat2 (zs.map Subtype.val)).toArray.size := by omega
   have hk2 : k - off < (flat2 (zs.map Subtype.val)).length := by simpa using hk
   simp [getElem!_pos, hk2]
  ·rfl
theorem sortQ_eq (l : List P64) : (l.mergeSort (fun x y => !(ltOf cfQ) y x)).map Subtype.val = isortC cfM (l.map Subtype.val) := by
 have hp : ((l.mergeSort (fun x y => !(ltOf cfQ) y x)).map Subtype.val).Perm (isortC cfM (l.map Subtype.val)) := ((List.mergeSort_perm l _).map _).trans (isortC_perm cfM _).symm
 refine List.Perm.eq_of_pairwise (le := fun a b => leC cfM a b = true) (fun a b _ _ h1 h2 => totM.anti a b h1 h2) ?_ (isortC_asc totM _) hp
 rw [List.pairwise_map]
 exact List.pairwise_mergeSort (le := fun x y : P64 => !(ltOf cfQ) y x) (fun a b c h1 h2 => totM.tr a.1 b.1 c.1 h1 h2) (fun a b => by
  have := totM.tot a.1 b.1
  rcases this with k | k
  ·have e : (!(ltOf cfQ) b a) = true := k
   simp [e]
  ·have e : (!(ltOf cfQ) a b) = true := k
   simp [e]) l
theorem fl_ints : ∀ L, fl L = (flat2 L).map (AV.int .i64)
 | [] => rfl
 | x :: r => by simp only [fl, flat2, List.map_cons, fl_ints r]
theorem prOf_eq : ∀ {cs : List AV} {zs : List (Int × Int)}, prOf cs = some zs -> cs = fl zs
 | [], zs, h => by simp [prOf] at h; subst h; rfl
 | [c], zs, h => by simp [prOf] at h
 | c :: e :: r, zs, h => by
   unfold prOf at h
   split at h
   ·rename_i heq; cases heq
   ·rename_i a b r' heq
    cases heq
    split at h
    ·rename_i l hl
     simp at h
     subst h
     rw [prOf_eq hl]
     rfl
    ·cases h
   ·cases h
theorem noGl (w : World) : GlOK cfg (fun _ => False) [] w := fun g => .fptr _ _ _ (fun _ => undef) (fun j c hc => by simp [cfg] at hc) (fun j c hc => by simp [cfg] at hc)
theorem noH (w : World) : HRel (fun _ => False) [] w [] := ⟨rfl, fun g h => h.elim, fun b cs hb => by simp at hb, fun b hb => by simp at hb, fun b b' g sz sz' h1 => by simp at h1⟩
theorem repP {R : Addr -> Value -> Prop} {φ : Phi} (x : Int × Int) : Rep R φ (pr2 x) (.agg (enc2 x).toArray) := by
 refine .agg _ _ _ rfl fun i c v hc hv => ?_
 match i with
 | 0 => simp [enc2] at hc hv; subst hc; subst hv; exact .int _ _ _
 | 1 => simp [enc2] at hc hv; subst hc; subst hv; exact .int _ _ _
 | i + 2 => simp at hc
theorem most_ok (x y : P64) (W : World) : Calls Go.Proofs.Try.prog nDegreeMost #[.agg (encP x).toArray, .agg (encP y).toArray] W fun e w' => e = .returned (.int .i64 (cfQ x y)) /\ ∃ q os', w' = grow (W.drewN q) os' := by
 obtain ⟨n, hn⟩ := most_cl x.1 y.1 x.2 y.2
 refine (callW_ok cfgOK orcOK (snd_all cfgOK orcOK n) nDegreeMost _ _ gDegreeMost _ [] _ _ (hn n (Nat.le_refl _)) (fun _ => False) [] W _ ⟨rfl, fun i c v hc hv => ?_⟩ (noH W) (noGl W)).mono ?_
 ·match i with
  | 0 => simp at hc hv; subst hc; subst hv; exact repP x.1
  | 1 => simp at hc hv; subst hc; subst hv; exact repP y.1
  | i + 2 => simp at hc
 ·rintro e w' ⟨v, φ', rfl, hr, _, a1⟩
  cases hr
  refine ⟨rfl, ?_⟩
  have a2 : Adv [] W [] w' := ⟨a1.os, a1.tape, a1.output, a1.drawn, a1.size, fun g hg ho => ⟨(a1.keep g hg ho).1, Owned.nil _⟩, .refl _⟩
  exact Go.Bm.adv_grow a2
theorem srt_ret {args : List AV} {H : Heap} {r : AV} {H' : Heap} (hs : gSrt args H = some (r, H')) {X : Nat -> Prop} {φ : Phi} {w : World} {vargs : Array Value} (ha : ARel X φ w args vargs) (hh : HRel X φ w H) :
  Calls Go.Proofs.Try.prog nSlicesSortFuncDegreeNeedDegreeNeed vargs w (Ret X φ w r H') := by
 unfold gSrt at hs
 split at hs
 case h_2 => cases hs
 rename_i b off len m
 split at hs
 case isFalse => cases hs
 rename_i hm
 subst hm
 split at hs
 case h_2 => cases hs
 rename_i cs hcs
 split at hs
 case isFalse => cases hs
 rename_i hlen
 obtain ⟨hlen, h0, h64⟩ := hlen
 split at hs
 case h_2 => cases hs
 rename_i zs hzs
 split at hs
 case isFalse => cases hs
 rename_i hin
 simp only [Option.some.injEq, Prod.mk.injEq] at hs
 obtain ⟨rfl, rfl⟩ := hs
 obtain ⟨h1, h2⟩ := ha
 have hsz : vargs.size = 2 := by simpa using h1.symm
 obtain ⟨v0, e0⟩ : ∃ v, vargs[0]? = some v := ⟨vargs[0], by simp [hsz]⟩
 obtain ⟨v1, e1⟩ : ∃ v, vargs[1]? = some v := ⟨vargs[1], by simp [hsz]⟩
 have r0 := h2 0 _ v0 rfl e0
 have r1 := h2 1 _ v1 rfl e1
 have f1 : v1 = .func (.func nDegreeMost) #[] #[] := by
  cases r1 with
  | func _ _ _ va _ vb hla hlb _ _ =>
    obtain rfl : va = #[] := Array.eq_empty_of_size_eq_zero (by simpa using hla.symm)
    obtain rfl : vb = #[] := Array.eq_empty_of_size_eq_zero (by simpa using hlb.symm)
    rfl
 subst f1
 obtain rfl : vargs = #[v0, .func (.func nDegreeMost) #[] #[]] := by
  apply Array.ext_getElem?
  intro i
  match i with
  | 0 => simpa using e0
  | 1 => simpa using e1
  | i + 2 => rw [Array.getElem?_eq_none (by omega)]; simp
 have hpr := prOf_eq hzs
 have hzl : zs.length = len := by
  have := congrArg List.length hpr
  rw [fl_len] at this
  simp at this
  omega
 have hall : ∀ x ∈ zs, 0 <= x.1 /\ x.1 < 64 /\ 0 <= x.2 /\ x.2 < 64 := fun x hx => of_decide_eq_true (List.all_eq_true.1 hin x hx)
 obtain ⟨ps, hps⟩ : ∃ ps : List P64, ps.map Subtype.val = zs := ⟨zs.attach.map fun x => ⟨x.1, hall x.1 x.2⟩, by rw [List.map_map]; exact List.attach_map_subtype_val zs⟩
 cases r0 with
 | sl _ _ _ _ _ a cap hb hc h =>
 have hr2 : Rep (Rd X φ w) φ (.sl 1 b off (len * 2)) (.slice (some a) (len * 2) (cap * 2)) := .sl _ _ _ _ _ _ _ hb (by omega) fun g sz hg => by
  obtain ⟨k1, k2⟩ := h g sz hg
  exact ⟨fun hc => k1 (by omega), by omega⟩
 obtain ⟨g, cap', hv, _, _, hH, hlt, _, hput⟩ := own_row hh hr2 (by omega) hcs hlen (zs := flat2 zs) (by
  rw [hpr, fl_ints]; exact intsOf_ints _)
 simp only [Value.slice.injEq, Option.some.injEq] at hv
 obtain ⟨rfl, _, _⟩ := hv
 have hl : len = ps.toArray.size := by rw [List.size_toArray, <- hzl, <- hps, List.length_map]
 subst hps
 have hcall := AnyQ.slices_SortFunc_total Go.BmP.laysSrn 2 (Go.Proofs.Try.isAgg68) (Go.Proofs.Try.sizeOf68) encP (fun _ => rfl) (fun x v hv => by simp [encP, enc2] at hv; rcases hv with rfl | rfl <;> rfl) cfQ swoQ nDegreeMost #[] g off cap ps.toArray w (Go.Proofs.enters_of Go.Proofs.Try.func46 (by kernel_rfl) rfl) (fun _ _ _ _ x y => most_ok x y _) (holdsP hH) hlt (by simp at hzl ⊢; omega) totQ
 rw [hl]
 refine hcall.mono ?_
 rintro e w' ⟨rfl, q, os, rfl⟩
 have e2 := sortQ_eq ps
 have ln : (flat2 (isortC cfM (ps.map Subtype.val))).length = len * 2 := by rw [flat2_length, isortC_length]; omega
 obtain ⟨p1, p2⟩ := hput (flat2 (isortC cfM (ps.map Subtype.val))) ln q os
 have e3 : sortWorldK encP 2 w g off q (ps.toArray.toList.mergeSort fun x y => !(ltOf cfQ) y x).toArray os = grow (putRow (Value.int .i64) (Sort.ahead w q) g off (flat2 (isortC cfM (ps.map Subtype.val))).toArray) os := by
  unfold sortWorldK; rw [putRowP, <- e2]
 rw [e3]
 refine ⟨_, φ, rfl, .tup _ _ _ rfl (fun i c v hc => by simp at hc), ?_, p2⟩
 rw [fl_ints]; exact p1
theorem cfgROK : CfgOK Go.Proofs.Try.prog cfgR := ⟨cfgOK.mixed, cfgOK.fn⟩
theorem orcROK : OrcOK Go.Proofs.Try.prog cfgR := by
 intro f g hf args H r H' hs X φ w vargs ha hh _
 have hf' : (if f = nSlicesSortFuncDegreeNeedDegreeNeed then some gSrt else none) = some g := hf
 split at hf'
 ·rename_i e
  subst e
  cases hf'
  exact srt_ret hs ha hh
 ·cases hf'
abbrev nRzA : Nat := nQl
theorem fnRzA : cfgR.fn nRzA = some (.P, qQl) := rfl
end Go.AmP
