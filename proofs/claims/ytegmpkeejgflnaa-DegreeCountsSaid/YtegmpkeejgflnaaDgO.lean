/- degree.Graphic of two lists, as the machine by value knows it: out of a run of the older machine. -/
import Derived.Test.YtegmpkeejgflnaaDgA
import Derived.Test.YtegmpkeejgflnaaDgG
namespace Go.Bm
open Go.Am
theorem ret_bool {X : Nat -> Prop} {φ : Phi} {w w' : World} {N : Names} {s : St} {Ha : Heap} {t : Nat -> Value} {B : Nat -> Nat} {b : Bool} (h : Sim X φ w N s Ha t) (a1 : Adv [] w [] w') : RetB X φ w B 0 (.bool b) [] (.returned (.bool b)) w' := by
 have hgi : ∀ i, Am.get [(0, AV.bool b)] i = if i = 0 then .bool b else .any := fun i => by simp only [Am.get]
 have hno : ∀ p, ownAt ⟨[(0, AV.bool b)], []⟩ p = none := by
  intro p
  cases p with
  | s i =>
    simp only [ownAt, at_, hgi]
    by_cases hi : i = 0
    ·rw [if_pos hi]
    ·rw [if_neg hi]
  | sc i j =>
    simp only [ownAt, at_, hgi]
    by_cases hi : i = 0
    ·rw [if_pos hi]
    ·rw [if_neg hi]
  | c b j => simp [ownAt, at_, blk]
 refine ⟨.bool b, φ, rfl, ⟨⟨N.β, fun _ => none⟩, Ha, ⟨fun i => ?_, fun i => ?_, h.heap.of_same a1, fun p k' xs e => ?_, fun b cs e => by simp [blk] at e, fun p q n e => ?_, fun b p e => by simp [blk] at e, fun b c e => by simp [blk] at e⟩, fun b hb => by omega, Nat.zero_le _⟩, .of_same a1⟩
 ·show Rep _ _ (trS _ i (Am.get [(0, AV.bool b)] i)) (if i = 0 then .bool b else undef)
  rw [hgi]
  by_cases e : i = 0
  ·rw [if_pos e, if_pos e]; exact .bool _ _
  ·rw [if_neg e, if_neg e]; exact .any _ _
 ·show okV _ _ (Am.get [(0, AV.bool b)] i)
  rw [hgi]
  split <;> trivial
 ·rw [hno] at e; cases e
 ·rw [hno] at e; cases e
theorem dg_call {zs : List Int} {b : Bool} (hr : Go.AmP.grA zs b = true) {w : World} {v : Value} (h : Rep (Rd (fun _ => False) [] w) [] (.list 1 (zs.map (AV.int .i64))) v) :
  Calls Go.Proofs.Try.prog Go.AmP.nQn #[v] w (fun e w' => e = .returned (.bool b) /\ Adv [] w [] w') := by
 obtain ⟨H', hc⟩ : ∃ H', aCall Go.AmP.cfg 200 Go.AmP.nQn [.list 1 (zs.map (AV.int .i64))] [] = some (.bool b, H') := by
  unfold Go.AmP.grA at hr
  split at hr
  ·rename_i x H e
   have : x = b := by simpa using hr
   exact ⟨H, by rw [e, this]⟩
  ·cases hr
 refine (callW_ok Go.AmP.cfgOK Go.AmP.orcOK (snd_all Go.AmP.cfgOK Go.AmP.orcOK 200) Go.AmP.nQn _ _ Go.AmP.gQn _ [] _ H' hc (fun _ => False) [] w #[v] ⟨rfl, fun i x u hx hu => ?_⟩ ⟨rfl, fun g h => h.elim, fun b cs hb => by simp at hb, fun b hb => by simp at hb, fun b b' g sz sz' h1 => by simp at h1⟩ (fun g => .fptr _ _ _ (fun _ => undef) (fun j c hc => by simp [Go.AmP.cfg] at hc) (fun j c hc => by simp [Go.AmP.cfg] at hc))).mono ?_
 ·cases i with
  | zero => cases hx; cases hu; exact h
  | succ i => simp at hx
 ·rintro e w' ⟨v', φ', rfl, r1, h1, a1⟩
  cases r1
  exact ⟨rfl, a1.os, a1.tape, a1.output, a1.drawn, a1.size, fun g hg ho => ⟨(a1.keep g hg (Owned.nil g)).1, Owned.nil g⟩, .refl _⟩
theorem dg_orc {args : List AV} {H : Heap} {r : AV} {H' : Heap} (hg : gDg args H = some (r, H')) {X : Nat -> Prop} {φ : Phi} {w : World} {B : Nat -> Nat} {vargs : Array Value} (hl : args.length = vargs.size) (hs : SB X φ w B H.length ⟨mkEnv 0 args, H⟩ (fun i => vargs.getD i undef)) :
  Calls Go.Proofs.Try.prog Go.AmP.nQn vargs w (RetB X φ w B H.length r H') := by
 unfold gDg at hg
 split at hg
 case h_2 => cases hg
 rename_i cs
 split at hg
 case h_2 => cases hg
 rename_i zs hz
 have hcs := intsOf_eq hz
 subst hcs
 obtain ⟨N, Ha, h, hb⟩ := hs
 have hsz : vargs.size = 1 := by simpa using hl.symm
 obtain ⟨v, rfl⟩ : ∃ v, vargs = #[v] := ⟨vargs[0], by apply Array.ext <;> simp [hsz]; intro i hi; simp [show i = 0 by omega]⟩
 have r0 : Rep (Rd X φ w) φ (.list 1 (zs.map (AV.int .i64))) v := h.env 0
 have hR : ∀ a u, Rd X φ w a u -> Rd (fun _ => False) [] w a u := fun a u h => ⟨fun f => f, Owned.nil _, h.2.2⟩
 have r1 : Rep (Rd (fun _ => False) [] w) [] (.list 1 (zs.map (AV.int .i64))) v := by
  generalize zs.map (AV.int .i64) = L at r0
  cases r0 with
  | lst _ _ _ a n cap u hn hcap hk hu h' => exact .lst _ _ _ a n cap u hn hcap hk (fun i j x c h1 h2 => hR _ _ (hu i j x c h1 h2)) (fun i j x c h1 h2 => (h' i j x c h1 h2).mono hR (.refl _))
  | lst0 => exact .lst0 _ _
 split at hg
 ·rename_i e
  simp only [Option.some.injEq, Prod.mk.injEq] at hg
  obtain ⟨rfl, rfl⟩ := hg
  refine (dg_call (e ▸ Go.AmP.grA_a) r1).mono ?_
  rintro e w' ⟨rfl, a1⟩
  exact ret_bool h a1
 ·split at hg
  ·rename_i e
   simp only [Option.some.injEq, Prod.mk.injEq] at hg
   obtain ⟨rfl, rfl⟩ := hg
   refine (dg_call (e ▸ Go.AmP.grA_b) r1).mono ?_
   rintro e w' ⟨rfl, a1⟩
   exact ret_bool h a1
  ·cases hg
end Go.Bm
