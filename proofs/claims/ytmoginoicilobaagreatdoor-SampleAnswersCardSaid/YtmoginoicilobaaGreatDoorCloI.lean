/- The library's clone of an empty slice, of ints and of pairs, as an own empty slice. -/
import Derived.Test.YtmoginoicilobaaGreatDoorGrfP
import Derived.Test.YtmoginoicilobaaGreatDoorMe
import Derived.Test.YtmoginoicilobaaGreatDoorBmP
import Derived.Shelf.Spec.SlicesInsertGrow
open Array renaming getElem?_eq_some_iff → dX
open Go.Proofs.Tryz renaming prog → ah
open List renaming getElem?_append_left → ak
open Nat renaming le_refl → ba, zero_le → Lo
open Option.some renaming injEq → ai
namespace Go.Am
theorem b8.Z9 {X : Nat -> Prop} {φ : dq} {w w' : World} {H : Heap} (h : b8 X φ w H) (a1 : eZ [] w [] w') {g : Nat} {cur : Array Value} {e : TypeId} (hg : w.heap.size <= g) (hw : w'.heap[g]? = some (.cells cur e (0,0))) :
  b8 X (φ ++ [some (g,cur.size)]) w' (H ++ [some []]) /\ eZ φ w (φ ++ [some (g,cur.size)]) w' := by
 have own : ∀ g,bN φ g -> g < w.heap.size := by
  intro g ⟨b,sz,hb⟩;have bz : b < H.length := h.len ▸ aq hb;obtain ⟨x,hx⟩ := bg bz;cases x with
  | none => rw [h.dead b hx] at hb; simp at hb
  | some cs =>
    obtain ⟨g',nC,arr,e,h1,h2,_⟩ := h.live b cs hx;rw [h1] at hb;simp at hb;rw [<- hb.1];exact (dX.1 h2).1
 have a : eZ φ w (φ ++ [some (g,cur.size)]) w' := by
  refine ⟨a1.os,a1.tape,a1.output,a1.drawn,a1.size,fun k hk hn => ⟨(a1.keep k hk (bN.nil k)).1,?_⟩,⟨by simp,fun b p hb hp => ?_⟩⟩
  ·rintro ⟨b,sz,hb⟩;by_cases bz : b < φ.length
   ·rw [ak bz] at hb;exact hn ⟨b,sz,hb⟩
   ·have je := aq hb;simp at je;have Db : b = φ.length := by omega
    subst Db;simp at hb;omega
  ·rwa [ak hb] at hp
 refine ⟨⟨by simp [h.len],fun k hk => Nat.lt_of_lt_of_le (h.G7 k hk) a1.size,fun b ds hb => ?_,fun b hb => ?_,fun b b' k sz nC h1 h2 => ?_⟩,a⟩
 ·by_cases bz : b < H.length
  ·rw [ak bz] at hb;obtain ⟨k,sz,ar,e',h1,h2,h3,h4,h5,h6⟩ := h.live b ds hb;refine ⟨k,sz,ar,e',by rw [ak (by rw [h.len]; exact bz)]; exact h1,?_,h3,h4,h5,fun i c hc => ?_⟩
   ·rw [(a1.keep k (dX.1 h2).1 (bN.nil k)).1]; exact h2
   ·obtain ⟨u,hu,r⟩ := h6 i c hc;exact ⟨u,hu,a.rep r⟩
  ·have je := aq hb;simp at je;have Db : b = H.length := by omega
   subst Db;simp at hb;subst hb;exact ⟨g,cur.size,cur,e,by rw [<- h.len]; simp,hw,rfl,by simp,fun hx => by have := h.G7 _ hx; omega,fun i c hi => by simp at hi⟩
 ·by_cases bz : b < H.length
  ·rw [ak bz] at hb;rw [ak (by rw [h.len]; exact bz)];exact h.dead b hb
  ·have je := aq hb;simp at je;have Db : b = H.length := by omega
   subst Db;simp at hb
 ·have new : ∀ (b k sz : Nat),(φ ++ [some (g,cur.size)])[b]? = some (some (k,sz)) -> (b < φ.length /\ φ[b]? = some (some (k,sz)) /\ k < w.heap.size) \/ (b = φ.length /\ k = g) := by
   intro b k sz hb;by_cases bz : b < φ.length
   ·rw [ak bz] at hb;exact .inl ⟨bz,hb,own k ⟨b,sz,hb⟩⟩
   ·have je := aq hb;simp at je;have Db : b = φ.length := by omega
    subst Db;simp at hb;exact .inr ⟨rfl,hb.1.symm⟩
  rcases new b k sz h1 with ⟨l1,e1,g1⟩ | ⟨l1,g1⟩ <;> rcases new b' k nC h2 with ⟨l2,e2,g2⟩ | ⟨l2,g2⟩
  ·exact h.inj b b' k sz nC e1 e2
  ·omega
  ·omega
  ·omega
end Go.Am
namespace Go.Proofs
open Go.Shelf Go.RowKit Go.Lib
theorem Vj : (Tryz.prog.info? 3).map (fun i => (i.zero,i.size,i.bytes)) = some (some (.int .i64 0),1,8) := by kernel_rfl
set_option maxHeartbeats 2000000 in
set_option maxRecDepth 100000 in
theorem Vi (a : Addr) (c : Nat) (w : World) : Calls Tryz.prog 44 #[.slice (some a) 0 c] w fun e w' => e = .returned (.slice (some ⟨w.heap.size,0,none⟩) 0 0) /\ w' = w.alloc (.cells #[] 3) := by
 have t4 := Tryz.underlying4; have a4 := Tryz.isAgg4; have z4 := Tryz.sizeOf4; have v4 := Tryz.zeroValue4; have t22 := Tryz.underlying22; have a22 := Tryz.isAgg22; have z22 := Tryz.sizeOf22; have v22 := Tryz.zeroValue22; have z43 := Tryz.sizeOf3;have mixed : Tryz.prog.follows .mixedOrders = true := by kernel_rfl
 obtain ⟨i0,hi0,_,_,_⟩ := info_parts Vj;have q22 : ∀ (w : World) (a : Option Addr) (n c n' c' : Nat),(binOp .eql 22 (.slice a n c) (.slice none n' c')).run Tryz.prog w = .ok (.bool a.isNone) w := fun w a n c n' c' => Lib.run_eql_slice_nil w _ _ a n c n' c' t22;have u22 : ∀ w,Sem.run Tryz.prog (underlying 22) w = .ok (TypeDesc.slice 3) w := run_underlying t22;have nQ : ∀ ty W,(Builtin.append_ #[22,22] ty #[.slice (some ⟨w.heap.size,0,none⟩) 0 0,.slice (some a) 0 c]).run Tryz.prog W = .ok (.slice (some ⟨w.heap.size,0,none⟩) 0 0) W := fun ty W => Go.Am.od t22 hi0 (ba 0)
 go_enter Tryz.func44,Tryz.ntmps44
 go_wp2_with (at_builtin; refine Lib.wpList_append_run _ rfl _ _ _ _ rfl _ _ rfl rfl _ _ (nQ _ _) ?_)
 go_ret
 exact ⟨rfl,rfl⟩
set_option maxHeartbeats 1000000 in
theorem ZM (n c : Nat) (w : World) : Calls Tryz.prog 44 #[.slice none n c] w fun e w' => e = .returned (.slice none 0 0) /\ w' = w := by
 have t4 := Tryz.underlying4; have a4 := Tryz.isAgg4; have z4 := Tryz.sizeOf4; have v4 := Tryz.zeroValue4; have t22 := Tryz.underlying22; have a22 := Tryz.isAgg22; have z22 := Tryz.sizeOf22; have v22 := Tryz.zeroValue22;have mixed : Tryz.prog.follows .mixedOrders = true := by kernel_rfl
 have q22 : ∀ (w : World) (a : Option Addr) (n c n' c' : Nat),(binOp .eql 22 (.slice a n c) (.slice none n' c')).run Tryz.prog w = .ok (.bool a.isNone) w := fun w a n c n' c' => Lib.run_eql_slice_nil w _ _ a n c n' c' t22
 go_enter Tryz.func44,Tryz.ntmps44
 go_wp2
 go_ret
 exact ⟨rfl,rfl⟩
end Go.Proofs
namespace Go.Bm
open Go.Am Go.Shelf Go.Proofs
def Tz : List AV -> Heap -> Option (AV × Heap)
 | [.list 1 []],[] => some (.own 1 [],[])
 | _,_ => none
theorem SG (k : Nat) (p : Rt) : av ⟨[(0,AV.own k [])],[]⟩ p = if p = .s 0 then some (k,[]) else none := by
 have Du : ∀ i,Am.get [(0,AV.own k [])] i = if i = 0 then .own k [] else .any := fun i => by simp only [Am.get]
 cases p with
 | s i =>
   simp only [av,at_,Du];by_cases hi : i = 0
   ·subst hi; simp
   ·simp [hi]
 | sc i j =>
   simp only [av,at_,Du];by_cases hi : i = 0
   ·subst hi; simp
   ·simp [hi]
 | c b j => simp [av,at_,aJ]
theorem Ma {X : Nat -> Prop} {φ φ' : dq} {w w' : World} {B : Nat -> Nat} {v' : Value} {Ha : Heap} (k : Nat) (o : Option Nat) (hH : b8 X φ' w' Ha) (ho : ∀ n,o = some n -> aJ Ha n = some []) (hr : bR (Rd X φ' w') φ' (qP ⟨fun b => b,fun p => if p = .s 0 then o else none⟩ (.s 0) k 0) v') (a1 : eZ φ w φ' w') : Lk X φ w B 0 (.own k []) [] (.returned v') w' := by
 have Du : ∀ i,Am.get [(0,AV.own k [])] i = if i = 0 then .own k [] else .any := fun i => by simp only [Am.get]
 refine ⟨v',φ',rfl,⟨⟨fun b => b,fun p => if p = .s 0 then o else none⟩,Ha,⟨fun i => ?_,fun i => ?_,hH,fun p k' xs e => ?_,fun b cs e => by simp [aJ] at e,fun p q n e f g1 g2 => ?_,fun b p e => by simp [aJ] at e,fun b c e => by simp [aJ] at e⟩,fun b hb => by omega,Lo _⟩,a1⟩
 ·show bR _ _ (kJ _ i (Am.get [(0,AV.own k [])] i)) (if i = 0 then v' else undef);rw [Du];by_cases e : i = 0
  ·subst e;rw [if_pos rfl,if_pos rfl];exact hr
  ·rw [if_neg e,if_neg e]; exact .any _ _
 ·show cD _ _ (Am.get [(0,AV.own k [])] i);rw [Du];split <;> trivial
 ·rw [SG] at e;split at e
  case isFalse => cases e
  rename_i hp;cases e;subst hp;simp only [if_true];cases o with
  | none => rfl
  | some n => exact ⟨[],ho n rfl,by simp,by simp,fun i c hc => by simp [aG] at hc⟩
 ·rw [SG] at e f;by_cases h1 : p = .s 0
  ·by_cases h2 : q = .s 0
   ·rw [h1,h2]
   ·rw [if_neg h2] at f; cases f
  ·rw [if_neg h1] at e; cases e
theorem ZL {args : List AV} {H : Heap} {r : AV} {H' : Heap} (hg : Tz args H = some (r,H')) {X : Nat -> Prop} {φ : dq} {w : World} {B : Nat -> Nat} {vargs : Array Value} (hl : args.length = vargs.size) (hs : SB X φ w B H.length ⟨dJ 0 args,H⟩ (fun i => vargs.getD i undef)) :
  Calls ah 44 vargs w (Lk X φ w B H.length r H') := by
 unfold Tz at hg;split at hg
 case h_2 => cases hg
 simp only [ai,Prod.mk.injEq] at hg;obtain ⟨rfl,rfl⟩ := hg;obtain ⟨N,Ha,h,hb⟩ := hs;have oS : vargs.size = 1 := by simpa using hl.symm
 obtain ⟨v,rfl⟩ : ∃ v,vargs = #[v] := ⟨vargs[0],by apply Array.ext <;> simp [oS]; intro i hi; simp [show i = 0 by omega]⟩;have r0 : bR (Rd X φ w) φ (.list 1 []) v := h.env 0;cases r0 with
 | ub _ _ _ a n cap u hn jW hk hu h' =>
   simp at hn;subst hn;refine (Vi a cap w).mono ?_;rintro e w' ⟨rfl,rfl⟩;have a1 : eZ [] w [] (w.alloc (.cells #[] 3)) := ⟨rfl,rfl,rfl,ba _,by show w.heap.size <= (w.heap.push _).size; simp,fun g hg h => ⟨by show (w.heap.push _)[g]? = _; rw [Array.getElem?_push_lt hg,Array.getElem?_eq_getElem hg],h⟩,.refl _⟩;have kA : (w.alloc (.cells #[] 3)).heap[w.heap.size]? = some (.cells #[] 3 (0,0)) := by show (w.heap.push _)[w.heap.size]? = _; simp
   obtain ⟨k1,k2⟩ := h.heap.Z9 a1 (ba _) kA;refine Ma 1 (some Ha.length) k1 (fun n hn => ?_) ?_ k2
   ·cases hn;simp [aJ]
   ·show bR _ _ (.sl 1 Ha.length 0 0) _;refine .sl _ _ _ _ _ _ _ (by simp [h.heap.len]) (Lo _) fun g' nC hq => ?_;rw [<- h.heap.len,List.getElem?_append_right (ba _)] at hq;simp at hq;obtain ⟨rfl,rfl⟩ := hq;exact ⟨fun _ => rfl,by omega⟩
 | kL =>
   refine (ZM 0 0 w).mono ?_;rintro e w' ⟨rfl,rfl⟩;exact Ma 1 none h.heap (fun n hn => by cases hn) (.dn _) (.refl _ _)
end Go.Bm
