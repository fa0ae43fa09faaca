/- degree.realise, as the machine by value knows it: out of the older machine's run. -/
import Derived.Test.YtjfdniggjdnkiaaRzS
import Derived.Test.YtjfdniggjdnkiaaDgR
import Derived.Test.YtjfdniggjdnkiaaCfS
import Derived.Test.YtjfdniggjdnkiaaLayP
import Derived.Test.YtjfdniggjdnkiaaLaySrn
import Derived.Test.YtjfdniggjdnkiaaZ02
import Derived.Test.YtjfdniggjdnkiaaCpcO
namespace Go.Bm
open Go.Am
theorem mapF_fl {H : Heap} {n : Nat} : ∀ L : List (Int × Int), mapF (Am.frz H (n + 1)) (fl L) = some (fl L, [])
 | [] => rfl
 | x :: r => by
   have ih := mapF_fl (H := H) (n := n) r
   simp only [fl, mapF, ih]
   rfl
theorem grp_fl : ∀ L : List (Int × Int), grp 2 L.length (fl L) = L.map pr2
 | [] => rfl
 | x :: r => by
   have ih := grp_fl r
   simp only [fl, List.length_cons, grp, List.map_cons, List.take_succ_cons, List.take_zero, List.drop_succ_cons, List.drop_zero, ih]
   rfl
theorem ot_frz {H : Heap} {o : AV} {out : List (Int × Int)} (h : Go.AmP.Ot H o out) (n : Nat) : ∃ d bs, Am.frz H (n + 2) o = some (d, bs) /\ ∀ R φ v, Rep R φ d v -> Rep R φ (.list 2 (out.map pr2)) v := by
 rcases h with ⟨rfl, rfl⟩ | ⟨b, rfl, hb, _⟩
 ·refine ⟨.nils, [], rfl, fun R φ v h => ?_⟩
  cases h
  exact .lst0 _ _
 ·refine ⟨.list 2 (out.map pr2), [b], ?_, fun R φ v h => h⟩
  have e : (List.drop 0 (fl out)).take (out.length * 2) = fl out := by rw [List.drop_zero]; exact List.take_of_length_le (by rw [fl_len]; exact Nat.le_refl _)
  have hle : 0 + out.length * 2 <= (fl out).length := by rw [fl_len]; omega
  unfold Am.frz
  simp only [hb, hle, if_true, e, mapF_fl, grp_fl]
theorem ret_tup {X : Nat -> Prop} {φ φ1 : Phi} {w w' : World} {N : Names} {s : St} {Ha : Heap} {t : Nat -> Value} {B : Nat -> Nat} {v' : Value} {xs : List AV} {b : Bool} (_ : Sim X φ w N s Ha t) (h1 : HRel X φ1 w' Ha) (a1 : Adv φ w φ1 w') (hr : Rep (Rd X φ1 w') φ1 (.tup [.list 2 xs, .bool b]) v') : RetB X φ w B 0 (.tup [.list 2 xs, .bool b]) [] (.returned v') w' := by
 have hgi : ∀ i, Am.get [(0, AV.tup [.list 2 xs, .bool b])] i = if i = 0 then .tup [.list 2 xs, .bool b] else .any := fun i => by simp only [Am.get]
 have hno : ∀ p, ownAt ⟨[(0, AV.tup [.list 2 xs, .bool b])], []⟩ p = none := by
  intro p
  cases p with
  | s i =>
    simp only [ownAt, at_, hgi]
    by_cases hi : i = 0
    ·rw [if_pos hi]
    ·rw [if_neg hi]
  | sc i j =>
    simp only [ownAt, at_, hgi]
    by_cases hi : i = 0
    ·rw [if_pos hi]
    ·rw [if_neg hi]
  | c b j => simp [ownAt, at_, blk]
 refine ⟨v', φ1, rfl, ⟨⟨N.β, fun _ => none⟩, Ha, ⟨fun i => ?_, fun i => ?_, h1, fun p k' xs e => ?_, fun b cs e => by simp [blk] at e, fun p q n e => ?_, fun b p e => by simp [blk] at e, fun b c e => by simp [blk] at e⟩, fun b hb => by omega, Nat.zero_le _⟩, a1⟩
 ·show Rep _ _ (trS _ i (Am.get [(0, AV.tup [.list 2 xs, .bool b])] i)) (if i = 0 then v' else undef)
  rw [hgi]
  by_cases e : i = 0
  ·rw [if_pos e, if_pos e]; exact hr
  ·rw [if_neg e, if_neg e]; exact .any _ _
 ·show okV _ _ (Am.get [(0, AV.tup [.list 2 xs, .bool b])] i)
  rw [hgi]
  split
  ·exact ⟨trivial, trivial, trivial⟩
  ·trivial
 ·rw [hno] at e; cases e
 ·rw [hno] at e; cases e
theorem rz_orc {args : List AV} {H : Heap} {r : AV} {H' : Heap} (hg : gRz args H = some (r, H')) {X : Nat -> Prop} {φ : Phi} {w : World} {B : Nat -> Nat} {vargs : Array Value} (hl : args.length = vargs.size) (hs : SB X φ w B H.length ⟨mkEnv 0 args, H⟩ (fun i => vargs.getD i undef)) :
  Calls Go.Proofs.Try.prog Go.AmP.nRzA vargs w (RetB X φ w B H.length r H') := by
 unfold gRz at hg
 split at hg
 case h_2 => cases hg
 rename_i cs
 split at hg
 case h_2 => cases hg
 rename_i zs hz
 split at hg
 case isFalse => cases hg
 rename_i h64
 have hcs := intsOf_eq hz
 subst hcs
 simp only [Option.some.injEq, Prod.mk.injEq] at hg
 obtain ⟨rfl, rfl⟩ := hg
 obtain ⟨N, Ha, h, hb⟩ := hs
 have hsz : vargs.size = 1 := by simpa using hl.symm
 obtain ⟨v, rfl⟩ : ∃ v, vargs = #[v] := ⟨vargs[0], by apply Array.ext <;> simp [hsz]; intro i hi; simp [show i = 0 by omega]⟩
 have r0 : Rep (Rd X φ w) φ (.list 1 (zs.map (AV.int .i64))) v := h.env 0
 have r1 : Rep (Rd X φ w) [] (.list 1 (zs.map (AV.int .i64))) v := by
  generalize zs.map (AV.int .i64) = L at r0
  cases r0 with
  | lst _ _ _ a n cap u hn hcap hk hu h' => exact .lst _ _ _ a n cap u hn hcap hk hu h'
  | lst0 => exact .lst0 _ _
 obtain ⟨H1, o, ⟨n, hn⟩, ho⟩ := Go.AmP.realise_cl zs h64
 obtain ⟨d, bs, hd, hrep⟩ := ot_frz ho 5
 have hfz : Am.frz H1 DEEP (.tup [o, .bool (rz zs).isSome]) = some (.tup [d, .bool (rz zs).isSome], bs ++ []) := by
  show (match mapF (Am.frz H1 7) [o, .bool (rz zs).isSome] with | some (ys, bs) => some (AV.tup ys, bs) | none => none) = _
  simp only [mapF]
  rw [show Am.frz H1 7 o = some (d, bs) from hd]
  rfl
 have hgl : GlOK Go.AmP.cfgR X φ w := fun g => .fptr _ _ _ (fun _ => undef) (fun j c hc => by simp [Go.AmP.cfgR, Go.AmP.cfg] at hc) (fun j c hc => by simp [Go.AmP.cfgR, Go.AmP.cfg] at hc)
 refine (pure_call (callW_ok Go.AmP.cfgROK Go.AmP.orcROK (snd_all Go.AmP.cfgROK Go.AmP.orcROK n)) Go.AmP.fnRzA (hn n (Nat.le_refl _)) hfz h.heap hgl ⟨rfl, fun i c u hc hu => ?_⟩).mono ?_
 ·cases i with
  | zero => cases hc; cases hu; exact r1
  | succ i => simp at hc
 ·rintro e w' ⟨v', φ1, rfl, rr, h1, a1⟩
  refine ret_tup h h1 a1 ?_
  cases rr with
  | tup _ _ vs hl h2 =>
    refine .tup _ _ _ hl fun i c u hc hu => ?_
    match i with
    | 0 => simp at hc; subst hc; exact hrep _ _ _ (h2 0 d u rfl hu)
    | 1 => simp at hc; subst hc; exact h2 1 _ u rfl hu
    | i + 2 => simp at hc
end Go.Bm
/- The library's sort of ints, and its sort by a comparison and Compact of edges, and degree.realise stand in the configuration. -/
namespace Go.BmP
open Go.Am Go.Bm Go.Shelf
theorem cfgSInp : InpOK Go.Proofs.Try.prog cfgS := by
 refine ⟨?_, EatOK.none fun _ => rfl⟩
 intro f g hf
 have hf' : inpS f = some g := hf
 unfold inpS at hf'
 split at hf'
 ·rename_i e
  subst e
  cases hf'
  exact ⟨⟨_, _, sQs⟩, fun k xs es ys res hg _ _ => sort_inp laysSort hg⟩
 ·split at hf'
  ·rename_i e
   subst e
   cases hf'
   exact ⟨⟨_, _, sQI⟩, fun k xs es ys res hg _ _ => srf_inp laysSrf Go.Proofs.Try.isAgg50 Go.Proofs.Try.sizeOf50 totO (Go.Proofs.enters_of Go.Proofs.Try.func49 (by kernel_rfl) rfl) Go.BmZ.order_ok hg⟩
  ·split at hf'
   ·rename_i e
    subst e
    cases hf'
    exact ⟨⟨_, _, sQJ⟩, fun k xs es ys res hg _ _ => cpe_inp hg⟩
   ·cases hf'
theorem cfgSOrc : OrcOKB Go.Proofs.Try.prog cfgS := by
 intro f g md q hf hq args H r H' hH hg _ X φ w B vargs hl hs _
 have hf' : orcF f = some g := hf
 unfold orcF at hf'
 split at hf'
 ·rename_i e
  subst e
  cases hf'
  exact cloW_orc hg hl hs
 ·split at hf'
  ·rename_i e
   subst e
   cases hf'
   exact rz_orc hg hl hs
  ·cases hf'
end Go.BmP
