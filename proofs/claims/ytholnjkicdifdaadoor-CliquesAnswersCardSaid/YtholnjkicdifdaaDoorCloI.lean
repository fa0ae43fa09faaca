/- The library's clone of an empty slice, of ints and of pairs, as an own empty slice. -/
import Derived.Test.YtholnjkicdifdaaDoorGrfP
import Derived.Test.YtholnjkicdifdaaDoorMe
import Derived.Test.YtholnjkicdifdaaDoorBmP
import Derived.Shelf.Spec.SlicesInsertGrow
namespace Go.Am
theorem HRel.adopt {X : Nat -> Prop} {φ : Phi} {w w' : World} {H : Heap} (h : HRel X φ w H) (a1 : Adv [] w [] w') {g : Nat} {cur : Array Value} {e : TypeId} (hg : w.heap.size <= g) (hw : w'.heap[g]? = some (.cells cur e (0,0))) :
  HRel X (φ ++ [some (g,cur.size)]) w' (H ++ [some []]) /\ Adv φ w (φ ++ [some (g,cur.size)]) w' := by
 have own : ∀ g,Owned φ g -> g < w.heap.size := by
  intro g ⟨b,sz,hb⟩;have hlt : b < H.length := h.len ▸ lt_of_getElem? hb;obtain ⟨x,hx⟩ := getElem?_some_of hlt;cases x with
  | none => rw [h.dead b hx] at hb; simp at hb
  | some cs =>
    obtain ⟨g',sz',arr,e,h1,h2,_⟩ := h.live b cs hx;rw [h1] at hb;simp at hb;rw [<- hb.1];exact (Array.getElem?_eq_some_iff.1 h2).1
 have a : Adv φ w (φ ++ [some (g,cur.size)]) w' := by
  refine ⟨a1.os,a1.tape,a1.output,a1.drawn,a1.size,fun k hk hn => ⟨(a1.keep k hk (Owned.nil k)).1,?_⟩,⟨by simp,fun b p hb hp => ?_⟩⟩
  ·rintro ⟨b,sz,hb⟩;by_cases hlt : b < φ.length
   ·rw [List.getElem?_append_left hlt] at hb;exact hn ⟨b,sz,hb⟩
   ·have hb' := lt_of_getElem? hb;simp at hb';have hbe : b = φ.length := by omega
    subst hbe;simp at hb;omega
  ·rwa [List.getElem?_append_left hb] at hp
 refine ⟨⟨by simp [h.len],fun k hk => Nat.lt_of_lt_of_le (h.xlt k hk) a1.size,fun b ds hb => ?_,fun b hb => ?_,fun b b' k sz sz' h1 h2 => ?_⟩,a⟩
 ·by_cases hlt : b < H.length
  ·rw [List.getElem?_append_left hlt] at hb;obtain ⟨k,sz,ar,e',h1,h2,h3,h4,h5,h6⟩ := h.live b ds hb;refine ⟨k,sz,ar,e',by rw [List.getElem?_append_left (by rw [h.len]; exact hlt)]; exact h1,?_,h3,h4,h5,fun i c hc => ?_⟩
   ·rw [(a1.keep k (Array.getElem?_eq_some_iff.1 h2).1 (Owned.nil k)).1]; exact h2
   ·obtain ⟨u,hu,r⟩ := h6 i c hc;exact ⟨u,hu,a.rep r⟩
  ·have hb' := lt_of_getElem? hb;simp at hb';have hbe : b = H.length := by omega
   subst hbe;simp at hb;subst hb;exact ⟨g,cur.size,cur,e,by rw [<- h.len]; simp,hw,rfl,by simp,fun hx => by have := h.xlt _ hx; omega,fun i c hi => by simp at hi⟩
 ·by_cases hlt : b < H.length
  ·rw [List.getElem?_append_left hlt] at hb;rw [List.getElem?_append_left (by rw [h.len]; exact hlt)];exact h.dead b hb
  ·have hb' := lt_of_getElem? hb;simp at hb';have hbe : b = H.length := by omega
   subst hbe;simp at hb
 ·have new : ∀ (b k sz : Nat),(φ ++ [some (g,cur.size)])[b]? = some (some (k,sz)) -> (b < φ.length /\ φ[b]? = some (some (k,sz)) /\ k < w.heap.size) \/ (b = φ.length /\ k = g) := by
   intro b k sz hb;by_cases hlt : b < φ.length
   ·rw [List.getElem?_append_left hlt] at hb;exact .inl ⟨hlt,hb,own k ⟨b,sz,hb⟩⟩
   ·have hb' := lt_of_getElem? hb;simp at hb';have hbe : b = φ.length := by omega
    subst hbe;simp at hb;exact .inr ⟨rfl,hb.1.symm⟩
  rcases new b k sz h1 with ⟨l1,e1,g1⟩ | ⟨l1,g1⟩ <;> rcases new b' k sz' h2 with ⟨l2,e2,g2⟩ | ⟨l2,g2⟩
  ·exact h.inj b b' k sz sz' e1 e2
  ·omega
  ·omega
  ·omega
end Go.Am
namespace Go.Proofs
open Go.Shelf Go.RowKit Go.Lib
theorem cloI_info : (Tryd.prog.info? 3).map (fun i => (i.zero,i.size,i.bytes)) = some (some (.int .i64 0),1,8) := by kernel_rfl
set_option maxHeartbeats 2000000 in
set_option maxRecDepth 100000 in
theorem cloI_zero (a : Addr) (c : Nat) (w : World) : Calls Tryd.prog 30 #[.slice (some a) 0 c] w fun e w' => e = .returned (.slice (some ⟨w.heap.size,0,none⟩) 0 0) /\ w' = w.alloc (.cells #[] 3) := by
 have t4 := Tryd.underlying4; have a4 := Tryd.isAgg4; have z4 := Tryd.sizeOf4; have v4 := Tryd.zeroValue4; have t22 := Tryd.underlying22; have a22 := Tryd.isAgg22; have z22 := Tryd.sizeOf22; have v22 := Tryd.zeroValue22; have z43 := Tryd.sizeOf3;have mixed : Tryd.prog.follows .mixedOrders = true := by kernel_rfl
 obtain ⟨i0,hi0,_,_,_⟩ := info_parts cloI_info;have q22 : ∀ (w : World) (a : Option Addr) (n c n' c' : Nat),(binOp .eql 22 (.slice a n c) (.slice none n' c')).run Tryd.prog w = .ok (.bool a.isNone) w := fun w a n c n' c' => Lib.run_eql_slice_nil w _ _ a n c n' c' t22;have u22 : ∀ w,Sem.run Tryd.prog (underlying 22) w = .ok (TypeDesc.slice 3) w := run_underlying t22;have hrun : ∀ ty W,(Builtin.append_ #[22,22] ty #[.slice (some ⟨w.heap.size,0,none⟩) 0 0,.slice (some a) 0 c]).run Tryd.prog W = .ok (.slice (some ⟨w.heap.size,0,none⟩) 0 0) W := fun ty W => Go.Am.run_append_zero t22 hi0 (Nat.le_refl 0)
 go_enter Tryd.func30,Tryd.ntmps30
 go_wp2_with (at_builtin; refine Lib.wpList_append_run _ rfl _ _ _ _ rfl _ _ rfl rfl _ _ (hrun _ _) ?_)
 go_ret
 exact ⟨rfl,rfl⟩
set_option maxHeartbeats 1000000 in
theorem cloI_nil (n c : Nat) (w : World) : Calls Tryd.prog 30 #[.slice none n c] w fun e w' => e = .returned (.slice none 0 0) /\ w' = w := by
 have t4 := Tryd.underlying4; have a4 := Tryd.isAgg4; have z4 := Tryd.sizeOf4; have v4 := Tryd.zeroValue4; have t22 := Tryd.underlying22; have a22 := Tryd.isAgg22; have z22 := Tryd.sizeOf22; have v22 := Tryd.zeroValue22;have mixed : Tryd.prog.follows .mixedOrders = true := by kernel_rfl
 have q22 : ∀ (w : World) (a : Option Addr) (n c n' c' : Nat),(binOp .eql 22 (.slice a n c) (.slice none n' c')).run Tryd.prog w = .ok (.bool a.isNone) w := fun w a n c n' c' => Lib.run_eql_slice_nil w _ _ a n c n' c' t22
 go_enter Tryd.func30,Tryd.ntmps30
 go_wp2
 go_ret
 exact ⟨rfl,rfl⟩
end Go.Proofs
namespace Go.Bm
open Go.Am Go.Shelf Go.Proofs
def gCloW : List AV -> Heap -> Option (AV × Heap)
 | [.list 1 []],[] => some (.own 1 [],[])
 | _,_ => none
theorem own0_at (k : Nat) (p : Rt) : ownAt ⟨[(0,AV.own k [])],[]⟩ p = if p = .s 0 then some (k,[]) else none := by
 have hgi : ∀ i,Am.get [(0,AV.own k [])] i = if i = 0 then .own k [] else .any := fun i => by simp only [Am.get]
 cases p with
 | s i =>
   simp only [ownAt,at_,hgi];by_cases hi : i = 0
   ·subst hi; simp
   ·simp [hi]
 | sc i j =>
   simp only [ownAt,at_,hgi];by_cases hi : i = 0
   ·subst hi; simp
   ·simp [hi]
 | c b j => simp [ownAt,at_,blk]
theorem ret_own0 {X : Nat -> Prop} {φ φ' : Phi} {w w' : World} {B : Nat -> Nat} {v' : Value} {Ha : Heap} (k : Nat) (o : Option Nat) (hH : HRel X φ' w' Ha) (ho : ∀ n,o = some n -> blk Ha n = some []) (hr : Rep (Rd X φ' w') φ' (ownT ⟨fun b => b,fun p => if p = .s 0 then o else none⟩ (.s 0) k 0) v') (a1 : Adv φ w φ' w') : RetB X φ w B 0 (.own k []) [] (.returned v') w' := by
 have hgi : ∀ i,Am.get [(0,AV.own k [])] i = if i = 0 then .own k [] else .any := fun i => by simp only [Am.get]
 refine ⟨v',φ',rfl,⟨⟨fun b => b,fun p => if p = .s 0 then o else none⟩,Ha,⟨fun i => ?_,fun i => ?_,hH,fun p k' xs e => ?_,fun b cs e => by simp [blk] at e,fun p q n e f g1 g2 => ?_,fun b p e => by simp [blk] at e,fun b c e => by simp [blk] at e⟩,fun b hb => by omega,Nat.zero_le _⟩,a1⟩
 ·show Rep _ _ (trS _ i (Am.get [(0,AV.own k [])] i)) (if i = 0 then v' else undef);rw [hgi];by_cases e : i = 0
  ·subst e;rw [if_pos rfl,if_pos rfl];exact hr
  ·rw [if_neg e,if_neg e]; exact .any _ _
 ·show okV _ _ (Am.get [(0,AV.own k [])] i);rw [hgi];split <;> trivial
 ·rw [own0_at] at e;split at e
  case isFalse => cases e
  rename_i hp;cases e;subst hp;simp only [if_true];cases o with
  | none => rfl
  | some n => exact ⟨[],ho n rfl,by simp,by simp,fun i c hc => by simp [flatCells] at hc⟩
 ·rw [own0_at] at e f;by_cases h1 : p = .s 0
  ·by_cases h2 : q = .s 0
   ·rw [h1,h2]
   ·rw [if_neg h2] at f; cases f
  ·rw [if_neg h1] at e; cases e
theorem cloW_orc {args : List AV} {H : Heap} {r : AV} {H' : Heap} (hg : gCloW args H = some (r,H')) {X : Nat -> Prop} {φ : Phi} {w : World} {B : Nat -> Nat} {vargs : Array Value} (hl : args.length = vargs.size) (hs : SB X φ w B H.length ⟨mkEnv 0 args,H⟩ (fun i => vargs.getD i undef)) :
  Calls Go.Proofs.Tryd.prog 30 vargs w (RetB X φ w B H.length r H') := by
 unfold gCloW at hg;split at hg
 case h_2 => cases hg
 simp only [Option.some.injEq,Prod.mk.injEq] at hg;obtain ⟨rfl,rfl⟩ := hg;obtain ⟨N,Ha,h,hb⟩ := hs;have hsz : vargs.size = 1 := by simpa using hl.symm
 obtain ⟨v,rfl⟩ : ∃ v,vargs = #[v] := ⟨vargs[0],by apply Array.ext <;> simp [hsz]; intro i hi; simp [show i = 0 by omega]⟩;have r0 : Rep (Rd X φ w) φ (.list 1 []) v := h.env 0;cases r0 with
 | lst _ _ _ a n cap u hn hcap hk hu h' =>
   simp at hn;subst hn;refine (cloI_zero a cap w).mono ?_;rintro e w' ⟨rfl,rfl⟩;have a1 : Adv [] w [] (w.alloc (.cells #[] 3)) := ⟨rfl,rfl,rfl,Nat.le_refl _,by show w.heap.size <= (w.heap.push _).size; simp,fun g hg h => ⟨by show (w.heap.push _)[g]? = _; rw [Array.getElem?_push_lt hg,Array.getElem?_eq_getElem hg],h⟩,.refl _⟩;have hcell : (w.alloc (.cells #[] 3)).heap[w.heap.size]? = some (.cells #[] 3 (0,0)) := by show (w.heap.push _)[w.heap.size]? = _; simp
   obtain ⟨k1,k2⟩ := h.heap.adopt a1 (Nat.le_refl _) hcell;refine ret_own0 1 (some Ha.length) k1 (fun n hn => ?_) ?_ k2
   ·cases hn;simp [blk]
   ·show Rep _ _ (.sl 1 Ha.length 0 0) _;refine .sl _ _ _ _ _ _ _ (by simp [h.heap.len]) (Nat.zero_le _) fun g' sz' hq => ?_;rw [<- h.heap.len,List.getElem?_append_right (Nat.le_refl _)] at hq;simp at hq;obtain ⟨rfl,rfl⟩ := hq;exact ⟨fun _ => rfl,by omega⟩
 | lst0 =>
   refine (cloI_nil 0 0 w).mono ?_;rintro e w' ⟨rfl,rfl⟩;exact ret_own0 1 none h.heap (fun n hn => by cases hn) (.nils _) (.refl _ _)
end Go.Bm
