/- The library's DeleteFunc with the question of partition.Ghosts: what is asked of a function that takes over a slice. -/
import Derived.Test.YtkhnplbbngkjkaaLayDlf
import Derived.Test.YtkhnplbbngkjkaaCfS
import Derived.Test.YtkhnplbbngkjkaaCloO
import Derived.Test.YtkhnplbbngkjkaaRunX
import Derived.WalkKit
import Derived.BigQuiet
set_option linter.unusedSimpArgs false
set_option linter.unusedVariables false
namespace Go.Bm
open Go.Am Go.Sort Go.Shelf Go.Proofs Go.RowKit Go.Lib Go.BmP
theorem dlfM : Go.Proofs.Try.prog.follows .mixedOrders = true := by kernel_rfl
set_option maxHeartbeats 1000000 in
theorem idf_none (p : Option Addr) (cap : Nat) (fv : Value) (w : World) : Calls Go.Proofs.Try.prog 41 #[.slice p 0 cap, fv] w fun e w' => e = .returned (.int .i64 (-1)) /\ w' = w := by
 have t3 := Try.underlying3; have a3 := Try.isAgg3; have z3 := Try.sizeOf3; have v3 := Try.zeroValue3; have t4 := Try.underlying4; have a4 := Try.isAgg4; have z4 := Try.sizeOf4; have v4 := Try.zeroValue4; have t22 := Try.underlying22; have a22 := Try.isAgg22; have z22 := Try.sizeOf22; have v22 := Try.zeroValue22
 have mixed := dlfM
 go_enter Go.Proofs.Try.func41, Go.Proofs.Try.ntmps41
 go_wp2
 refine wp_loop_rounds 1 ?_
 rw [rounds_succ]
 go_wp2
 go_ret
 exact ⟨rfl, rfl⟩
set_option maxHeartbeats 1000000 in
theorem dlf_none (p : Option Addr) (cap : Nat) (fv : Value) (w : World) : Calls Go.Proofs.Try.prog 24 #[.slice p 0 cap, fv] w fun e w' => e = .returned (.slice p 0 cap) /\ w' = w := by
 have t3 := Try.underlying3; have a3 := Try.isAgg3; have z3 := Try.sizeOf3; have v3 := Try.zeroValue3; have t4 := Try.underlying4; have a4 := Try.isAgg4; have z4 := Try.sizeOf4; have v4 := Try.zeroValue4; have t22 := Try.underlying22; have a22 := Try.isAgg22; have z22 := Try.sizeOf22; have v22 := Try.zeroValue22
 have mixed := dlfM
 have hI := idf_none p cap fv w
 go_enter Go.Proofs.Try.func24, Go.Proofs.Try.ntmps24
 go_wp2_with (go_at_call 41; refine hI.mono ?_; rintro e w' ⟨rfl, rfl⟩)
 go_ret
 exact ⟨rfl, rfl⟩
set_option maxHeartbeats 2000000 in
theorem own1_walk (B1 o1 B2 o2 : Nat) (ob oo len cap : Nat) (x w' z : Int) (W : World) (h1 : W.cell? ⟨B1, o1 + 1, none⟩ = some (.slice (some ⟨ob, oo, none⟩) len cap)) (hx : 0 <= x /\ x < (len : Int)) (h2 : W.cell? ⟨ob, oo + x.toNat, none⟩ = some (.int .i64 z)) (h3 : W.cell? ⟨B2, o2, none⟩ = some (.int .i64 w')) :
  Calls Go.Proofs.Try.prog 25 #[.int .i64 x, .pointer (some ⟨B1, o1, none⟩), .pointer (some ⟨B2, o2, none⟩)] W fun e w1 => e = .returned (.bool (decide (z = w'))) /\ ∃ q, w1 = W.drewN q := by
 have t3 := Try.underlying3; have a3 := Try.isAgg3; have z3 := Try.sizeOf3; have v3 := Try.zeroValue3; have t4 := Try.underlying4; have a4 := Try.isAgg4; have z4 := Try.sizeOf4; have v4 := Try.zeroValue4; have t22 := Try.underlying22; have a22 := Try.isAgg22; have z22 := Try.sizeOf22; have v22 := Try.zeroValue22
 have tp := Try.underlying32; have ap := Try.isAgg32; have zp := Try.sizeOf32
 have mixed := dlfM
 obtain ⟨j, rfl⟩ : ∃ j : Nat, x = j := ⟨x.toNat, by omega⟩
 rw [show ((j : Nat) : Int).toNat = j by omega] at h2
 obtain ⟨_, hlt⟩ := hx
 have hlt2 : j < len := by omega
 go_enter Go.Proofs.Try.func25, Go.Proofs.Try.ntmps25
 go_wp2
 go_region
 go_wp2
 go_ret
 exact ⟨rfl, 1, rfl⟩
theorem spot_none {W : World} {a : Addr} {u : Value} (h : W.cell? a = some u) : a.spot = none := by
 unfold World.cell? at h
 split at h
 ·split at h
  ·cases h
  ·rename_i hs
   cases e : a.spot with
   | none => rfl
   | some x => rw [e] at hs; simp at hs
 ·cases h
theorem own1_caps {w : World} {og : Option Nat} {k w' : Int} {os : List Int} {hv : List AV} {m : Nat} {v : Value} (h0 : os ≠ []) (r : Rep (Beside0 w og) [] (.func (.func m) [] [.fptr [.int .i64 k, .list 1 (ints os), .list 1 hv], .fptr [.int .i64 w']]) v) :
  ∃ B1 o1 B2 o2 ob oo cap, v = .func (.func m) #[] #[.pointer (some ⟨B1, o1, none⟩), .pointer (some ⟨B2, o2, none⟩)] /\ Beside0 w og ⟨B1, o1 + 1, none⟩ (.slice (some ⟨ob, oo, none⟩) os.length cap) /\ (∀ i, i < os.length -> Beside0 w og ⟨ob, oo + i, none⟩ (.int .i64 (os.getD i 0))) /\ Beside0 w og ⟨B2, o2, none⟩ (.int .i64 w') := by
 cases r with
 | func _ _ _ va _ vb hla hlb ha hb =>
   obtain rfl : va = #[] := Array.eq_empty_of_size_eq_zero (by simpa using hla.symm)
   have hsz : vb.size = 2 := by simpa using hlb.symm
   obtain ⟨v1, h1⟩ := agetElem?_some_of (l := vb) (i := 0) (by omega)
   obtain ⟨v2, h2⟩ := agetElem?_some_of (l := vb) (i := 1) (by omega)
   have r1 := hb 0 _ v1 rfl h1
   have r2 := hb 1 _ v2 rfl h2
   have evb : vb = #[v1, v2] := by
    apply Array.ext_getElem?
    intro i
    match i with
    | 0 => simpa using h1
    | 1 => simpa using h2
    | i + 2 => rw [Array.getElem?_eq_none (by omega)]; simp
   subst evb
   cases r1 with
   | fptr _ _ a1 u1 hu1 hr1 =>
   cases r2 with
   | fptr _ _ a2 u2 hu2 hr2 =>
   obtain ⟨B1, o1, s1⟩ := a1
   obtain ⟨B2, o2, s2⟩ := a2
   have c1 := hu1 1 _ rfl
   have c2 := hu2 0 _ rfl
   have q1 := hr1 1 _ rfl
   have q2 := hr2 0 _ rfl
   have p1 := spot_none (hu1 0 _ rfl).2
   have p2 := spot_none c2.2
   simp only [Addr.add, if_pos] at p1 p2
   subst p1 p2
   rw [Addr.add_none] at c1 c2
   generalize hz1 : u1 1 = z1 at *
   generalize hz2 : u2 0 = z2 at *
   cases q2
   obtain ⟨O, hO⟩ : ∃ O, O = ints os := ⟨_, rfl⟩
   rw [<- hO] at q1
   cases q1 with
   | lst0 => exact absurd (by simpa [ints] using hO) h0
   | lst _ _ _ ad n cap uu hn hc hk hu hh =>
   subst hO
   have at_ : ∀ i, i < os.length -> ∃ x : AV, (ints os)[i]? = some x /\ x = .int .i64 (os.getD i 0) := fun i hi => ⟨_, by rw [ints_get, List.getElem?_eq_getElem hi]; rfl, by simp [List.getD_eq_getElem?_getD, List.getElem?_eq_getElem hi]⟩
   have cell : ∀ i, i < os.length -> Beside0 w og (ad.add i) (.int .i64 (os.getD i 0)) := fun i hi => by
    obtain ⟨x, e1, e2⟩ := at_ i hi
    subst e2
    have a := hu i 0 _ _ e1 rfl
    have b := hh i 0 _ _ e1 rfl
    generalize uu i 0 = y at *
    cases b
    simpa using a
   have l0 : 0 < os.length := List.length_pos_iff.2 h0
   obtain ⟨ob, oo, s3⟩ := ad
   have p3 := spot_none (cell 0 l0).2
   simp only [Addr.add, if_pos] at p3
   subst p3
   have hnl : n = os.length := by rw [hn, ints_length]
   subst hnl
   refine ⟨B1, o1, B2, o2, ob, oo, cap, rfl, c1, fun i hi => ?_, by simpa using c2⟩
   have := cell i hi
   rwa [Addr.add_none] at this
theorem fn_args {m : Nat} {bs : List AV} {vargs : Array Value} {v0 : Value} (hs : ([.func (.func m) [] bs] : List AV).length + 1 = vargs.size) (h0 : vargs[0]? = some v0) : ∃ v1, vargs = #[v0, v1] /\ vargs[1]? = some v1 := by
 have hsz : vargs.size = 2 := by simpa using hs.symm
 obtain ⟨v1, h1⟩ := agetElem?_some_of (l := vargs) (i := 1) (by omega)
 refine ⟨v1, ?_, h1⟩
 apply Array.ext_getElem?
 intro i
 match i with
 | 0 => simpa using h0
 | 1 => simpa using h1
 | i + 2 => rw [Array.getElem?_eq_none (by omega)]; simp
theorem pmap_val {n : Int} : ∀ (zs : List Int) (h : ∀ z ∈ zs, 0 <= z /\ z < n), (zs.pmap (fun z h => (⟨z, h⟩ : {x : Int // 0 <= x /\ x < n})) h).map (·.1) = zs
 | [], _ => rfl
 | z :: r, h => by rw [List.pmap, List.map_cons, pmap_val r]
theorem dlf_ok : EatCon Go.Proofs.Try.prog 24 (delfG 25) EatPostN := by
 intro k xs es ys hg hk hf
 have hL : LIM = 4294967296 := rfl
 unfold delfG at hg
 split at hg
 case h_2 => cases hg
 rename_i m u ow hv w'
 split at hg
 case isFalse => cases hg
 rename_i hcond
 obtain ⟨rfl, rfl, hlim⟩ := hcond
 split at hg
 case h_2 => cases hg
 rename_i zs os ez eo
 split at hg
 case isFalse => cases hg
 rename_i hb
 simp only [Option.some.injEq] at hg
 subst hg
 have e1 := intsOf_eq ez
 have e2 := intsOf_eq eo
 change xs = ints zs at e1
 change ow = ints os at e2
 subst e1 e2
 refine ⟨⟨fun y hy => ?_, fun y hy d hd => ?_⟩, fun hx w vargs hl hv0 hes => ?_, fun w vargs g0 arr te a cap hgh hcell hl hv0 ha hcap hsz hes => ?_⟩
 ·obtain ⟨z, _, rfl⟩ := List.mem_map.1 hy; rfl
 ·obtain ⟨z, _, rfl⟩ := List.mem_map.1 hy
  simp [AV.cells] at hd; subst hd; rfl
 ·have hz : zs = [] := by simpa [ints] using hx
  subst hz
  obtain ⟨v1, rfl, _⟩ := fn_args hl hv0
  refine (dlf_none none 0 v1 w).mono ?_
  rintro e w1 ⟨rfl, rfl⟩
  exact .inr ⟨rfl, rfl, rfl, .refl _ _⟩
 ·obtain ⟨v1, rfl, h1⟩ := fn_args hl hv0
  have lz := ints_length zs
  by_cases hz : zs = []
  ·subst hz
   refine (dlf_none (some a) cap v1 w).mono ?_
   rintro e w1 ⟨rfl, rfl⟩
   exact .inl ⟨g0, cap, arr, te, a, rfl, ha, Nat.zero_le _, hsz, hgh, fun i d hd => by simp [flatCells] at hd, .inl rfl, fun _ _ _ => rfl, rfl, rfl, rfl, Nat.le_refl _, Nat.le_refl _⟩
  ·have h0 : os ≠ [] := fun e => by
    subst e
    obtain ⟨z, hz'⟩ := List.exists_mem_of_ne_nil _ hz
    have := hb z hz'
    simp at this; omega
   have l0 : 0 < os.length := List.length_pos_iff.2 h0
   have lzs : 0 < zs.length := List.length_pos_iff.2 hz
   obtain ⟨B1, o1, B2, o2, ob, oo, ocap, rfl, c1, c2, c3⟩ := own1_caps h0 (hes 0 _ v1 rfl h1)
   obtain rfl := ha (by omega)
   let α := {x : Int // 0 <= x /\ x < (os.length : Int)}
   let enc : α -> Value := fun x => .int .i64 x.1
   let zr : α := ⟨0, by omega, by omega⟩
   haveI : Inhabited α := ⟨zr⟩
   let d : Array α := (zs.pmap (fun z h => (⟨z, h⟩ : α)) hb).toArray
   have dv : d.toList.map (·.1) = zs := pmap_val zs hb
   have ds : d.size = zs.length := by rw [<- dv]; simp
   have gives : ∀ (W : World), (∀ a u, Beside0 w (some g0) a u -> W.cell? a = some u) -> ∀ x : α, FnGives Go.Proofs.Try.prog 25 #[.pointer (some ⟨B1, o1, none⟩), .pointer (some ⟨B2, o2, none⟩)] #[enc x] (.bool (ownsB os w' x.1)) W := fun W agree x => by
    obtain ⟨x, x0, x1⟩ := x
    exact own1_walk B1 o1 B2 o2 ob oo os.length ocap x w' (os.getD x.toNat 0) W (agree _ _ c1) ⟨x0, x1⟩ (agree _ _ (c2 x.toNat (by omega))) (agree _ _ c3)
   have lt : ∀ {a u}, w.cell? a = some u -> a.block < w.heap.size := fun {a u} h => by
    unfold World.cell? at h
    split at h
    ·rename_i e; exact (Array.getElem?_eq_some_iff.1 e).1
    ·cases h
   have hp : PredAt Go.Proofs.Try.prog 25 #[.pointer (some ⟨B1, o1, none⟩), .pointer (some ⟨B2, o2, none⟩)] enc (fun x => ownsB os w' x.1) w := fun W x hbel => gives W (fun a u h => (hbel.cell (p := a) (lt h.2)).trans h.2) x
   have hpo : PredOver Go.Proofs.Try.prog 25 #[.pointer (some ⟨B1, o1, none⟩), .pointer (some ⟨B2, o2, none⟩)] enc (fun x => ownsB os w' x.1) g0 0 d.size w := fun n os' dk x _ => gives _ (fun a u h => by
    unfold sortWorld
    rw [cell?_grow _ _ _ (by show a.block < (putRow _ _ _ _ _).heap.size; rw [Go.Sort.size_putRow]; exact lt h.2), cell?_putRow_other _ _ g0 0 _ _ (Or.inl fun e => h.1 (by rw [e]))]
    exact h.2) x
   have hat : ∀ j (hj : j < zs.length), arr[j]? = some (.int .i64 zs[j]) := fun j hj => by
    obtain ⟨u, u1, u2⟩ := hcell j (.int .i64 zs[j]) (by rw [flatCells_ints, ints_get, List.getElem?_eq_getElem hj]; rfl)
    cases u2
    exact u1
   have dj : ∀ j (hj : j < zs.length), (d[j]!).1 = zs[j] := fun j hj => by
    have h' : j < d.size := by omega
    rw [getElem!_pos d j h']
    have := congrArg (fun l => l[j]?) dv
    simp only [List.getElem?_map] at this
    rw [List.getElem?_eq_getElem (by simpa using h'), List.getElem?_eq_getElem hj] at this
    simpa using this
   have hH : Holds enc w g0 0 d := fun j hj => by
    have hj' : j < zs.length := by omega
    refine ⟨?_, by simp [World.frozen?, hgh]⟩
    simp only [World.cell?, hgh, Nat.zero_add]
    show (if _ then _ else arr[j]?) = _
    rw [hat j hj']
    show _ = some (Value.int .i64 (d[j]!).1)
    rw [dj j hj']
    rfl
   have eg : ∀ args w, (callFunc 25 args).run Go.Proofs.Try.prog w = .ok (.enter 25 args) w := enters_of Go.Proofs.Try.func25 (by kernel_rfl) rfl
   have hcall := AnyE.slices_DeleteFunc laysDlf enc (fun _ => rfl) (fun x => ownsB os w' x.1) 25 #[.pointer (some ⟨B1, o1, none⟩), .pointer (some ⟨B2, o2, none⟩)] eg zr Go.Proofs.Try.zeroValue3 g0 0 cap d w hp hpo hH (by rw [ds]; omega) (by rw [ds]; omega)
   have ef : (d.toList.filter fun x => !ownsB os w' x.1).map (·.1) = zs.filter fun z => !ownsB os w' z := by
    rw [<- dv, List.filter_map]; rfl
   have lf : (d.toList.filter fun x => !ownsB os w' x.1).length = (zs.filter fun z => !ownsB os w' z).length := by rw [<- ef, List.length_map]
   rw [ds] at hcall
   rw [lz] at hcap ⊢
   refine Calls.mono hcall ?_
   rintro e w1 ⟨rfl, q, rfl⟩
   have lF : (d.toList.filter fun x => !ownsB os w' x.1).length <= zs.length := by rw [lf]; exact List.length_filter_le _ _
   generalize (d.toList.filter fun x => !ownsB os w' x.1) = F at *
   generalize (zs.filter fun z => !ownsB os w' z) = G at *
   have lG : (G.map (AV.int .i64)).length = F.length := by rw [List.length_map]; exact lf.symm
   have hh : (putRow enc (Sort.ahead w q) g0 0 (F ++ List.replicate (zs.length - F.length) zr).toArray).heap[g0]? = some (.cells (putCells enc 0 (F ++ List.replicate (zs.length - F.length) zr).toArray arr) te (0, 0)) := by
    show ((Sort.ahead w q).heap.modify g0 _)[g0]? = _
    rw [Array.getElem?_modify, if_pos rfl]
    show (w.heap[g0]?).map _ = _
    rw [hgh]
    rfl
   refine .inl ⟨g0, cap, putCells enc 0 (F ++ List.replicate (zs.length - F.length) zr).toArray arr, te, ⟨g0, 0, none⟩, by rw [lG], fun _ => rfl, by rw [lG]; omega, by simp only [putCells, Array.size_mapIdx]; exact hsz, hh, fun i dd hd => ?_, .inl rfl, fun h hlt hne => ?_, rfl, rfl, rfl, Nat.le_add_right _ _, by show w.heap.size <= (w.heap.modify g0 _).size; simp⟩
   ·have hd' : (ints G)[i]? = some dd := by rw [<- flatCells_ints]; exact hd
    have hi : i < G.length := by have := lt_of_getElem? hd'; rwa [ints_length] at this
    rw [ints_get, List.getElem?_eq_getElem hi] at hd'
    simp only [Option.map_some, Option.some.injEq] at hd'
    subst hd'
    have hiF : i < F.length := by rw [lf]; exact hi
    have hia : i < arr.size := by omega
    have ev : (F[i]).1 = G[i] := by
     have := congrArg (fun l => l[i]?) ef
     simp only [List.getElem?_map] at this
     rw [List.getElem?_eq_getElem hiF, List.getElem?_eq_getElem hi] at this
     simpa using this
    refine ⟨.int .i64 G[i], ?_, .int _ _ _⟩
    unfold putCells
    rw [Array.getElem?_mapIdx, Array.getElem?_eq_getElem hia]
    simp only [Option.map_some, Option.some.injEq]
    have hsz2 : i < (F ++ List.replicate (zs.length - F.length) zr).toArray.size := by simp; omega
    rw [if_pos ⟨Nat.zero_le _, by omega⟩, Nat.sub_zero, getElem!_pos _ i hsz2]
    show Value.int .i64 ((F ++ List.replicate (zs.length - F.length) zr).toArray[i]).1 = _
    have : (F ++ List.replicate (zs.length - F.length) zr).toArray[i] = F[i] := by
     simp [List.getElem_append_left hiF]
    rw [this, ev]
   ·have hne' : g0 ≠ h := fun e => hne (by rw [e])
    show ((Sort.ahead w q).heap.modify g0 _)[h]? = _
    rw [Array.getElem?_modify, if_neg hne']
    rfl
end Go.Bm
