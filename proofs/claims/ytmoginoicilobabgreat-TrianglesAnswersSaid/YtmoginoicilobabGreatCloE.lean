/- The library's clone of an empty slice, of ints and of pairs, as an own empty slice. -/
import Derived.Test.YtmoginoicilobabGreatGrfP
import Derived.Test.YtmoginoicilobabGreatMe
import Derived.Test.YtmoginoicilobabGreatBmP
import Derived.Shelf.Spec.SlicesInsertGrow
open Array renaming getElem?_eq_getElem → dX, getElem?_eq_some_iff → dG, getElem?_push_lt → Lo
open Go.Proofs.Tryz renaming prog → af
open List renaming getElem?_append_left → aq, getElem?_append_right → aK
open Nat renaming le_refl → aT, zero_le → zG
open Option.some renaming injEq → ah
open Prod.mk renaming injEq → aF
namespace Go.Am
theorem cJ.UB {X : Nat -> Prop} {φ : dF} {w w' : World} {H : Heap} (h : cJ X φ w H) (a1 : fo [] w [] w') {g : Nat} {cur : Array Value} {e : TypeId} (hg : w.heap.size <= g) (hw : w'.heap[g]? = some (.cells cur e (0,0))) :
  cJ X (φ ++ [some (g,cur.size)]) w' (H ++ [some []]) /\ fo φ w (φ ++ [some (g,cur.size)]) w' := by
 have own : ∀ g,bM φ g -> g < w.heap.size := by
  intro g ⟨b,sz,hb⟩;have bO : b < H.length := h.len ▸ au hb;obtain ⟨x,hx⟩ := aV bO;cases x with
  | none => rw [h.dead b hx] at hb; simp at hb
  | some cs =>
    obtain ⟨g',lk,arr,e,h1,h2,_⟩ := h.live b cs hx;rw [h1] at hb;simp at hb;rw [<- hb.1];exact (dG.1 h2).1
 have a : fo φ w (φ ++ [some (g,cur.size)]) w' := by
  refine ⟨a1.os,a1.tape,a1.output,a1.drawn,a1.size,fun k hk hn => ⟨(a1.keep k hk (bM.nil k)).1,?_⟩,⟨by simp,fun b p hb hp => ?_⟩⟩
  ·rintro ⟨b,sz,hb⟩;by_cases bO : b < φ.length
   ·rw [aq bO] at hb;exact hn ⟨b,sz,hb⟩
   ·have im := au hb;simp at im;have xU : b = φ.length := by omega
    subst xU;simp at hb;omega
  ·rwa [aq hb] at hp
 refine ⟨⟨by simp [h.len],fun k hk => Nat.lt_of_lt_of_le (h.Df k hk) a1.size,fun b ds hb => ?_,fun b hb => ?_,fun b b' k sz lk h1 h2 => ?_⟩,a⟩
 ·by_cases bO : b < H.length
  ·rw [aq bO] at hb;obtain ⟨k,sz,ar,e',h1,h2,h3,h4,h5,h6⟩ := h.live b ds hb;refine ⟨k,sz,ar,e',by rw [aq (by rw [h.len]; exact bO)]; exact h1,?_,h3,h4,h5,fun i c hc => ?_⟩
   ·rw [(a1.keep k (dG.1 h2).1 (bM.nil k)).1]; exact h2
   ·obtain ⟨u,hu,r⟩ := h6 i c hc;exact ⟨u,hu,a.rep r⟩
  ·have im := au hb;simp at im;have xU : b = H.length := by omega
   subst xU;simp at hb;subst hb;exact ⟨g,cur.size,cur,e,by rw [<- h.len]; simp,hw,rfl,by simp,fun hx => by have := h.Df _ hx; omega,fun i c hi => by simp at hi⟩
 ·by_cases bO : b < H.length
  ·rw [aq bO] at hb;rw [aq (by rw [h.len]; exact bO)];exact h.dead b hb
  ·have im := au hb;simp at im;have xU : b = H.length := by omega
   subst xU;simp at hb
 ·have new : ∀ (b k sz : Nat),(φ ++ [some (g,cur.size)])[b]? = some (some (k,sz)) -> (b < φ.length /\ φ[b]? = some (some (k,sz)) /\ k < w.heap.size) \/ (b = φ.length /\ k = g) := by
   intro b k sz hb;by_cases bO : b < φ.length
   ·rw [aq bO] at hb;exact .inl ⟨bO,hb,own k ⟨b,sz,hb⟩⟩
   ·have im := au hb;simp at im;have xU : b = φ.length := by omega
    subst xU;simp at hb;exact .inr ⟨rfl,hb.1.symm⟩
  rcases new b k sz h1 with ⟨l1,e1,g1⟩ | ⟨l1,g1⟩ <;> rcases new b' k lk h2 with ⟨l2,e2,g2⟩ | ⟨l2,g2⟩
  ·exact h.inj b b' k sz lk e1 e2
  ·omega
  ·omega
  ·omega
end Go.Am
namespace Go.Proofs
open Go.Shelf Go.RowKit Go.Lib
theorem Wo : (Tryz.prog.info? 3).map (fun i => (i.zero,i.size,i.bytes)) = some (some (.int .i64 0),1,8) := by kernel_rfl
set_option maxHeartbeats 2000000 in
set_option maxRecDepth 100000 in
theorem Wn (a : Addr) (c : Nat) (w : World) : Calls Tryz.prog 69 #[.slice (some a) 0 c] w fun e w' => e = .returned (.slice (some ⟨w.heap.size,0,none⟩) 0 0) /\ w' = w.alloc (.cells #[] 3) := by
 have t4 := Tryz.underlying4; have a4 := Tryz.isAgg4; have z4 := Tryz.sizeOf4; have v4 := Tryz.zeroValue4; have t22 := Tryz.underlying22; have a22 := Tryz.isAgg22; have z22 := Tryz.sizeOf22; have v22 := Tryz.zeroValue22; have z43 := Tryz.sizeOf3;have mixed : Tryz.prog.follows .mixedOrders = true := by kernel_rfl
 obtain ⟨i0,Px,_,_,_⟩ := info_parts Wo;have q22 : ∀ (w : World) (a : Option Addr) (n c n' c' : Nat),(binOp .eql 22 (.slice a n c) (.slice none n' c')).run Tryz.prog w = .ok (.bool a.isNone) w := fun w a n c n' c' => Lib.run_eql_slice_nil w _ _ a n c n' c' t22;have u22 : ∀ w,Sem.run Tryz.prog (underlying 22) w = .ok (TypeDesc.slice 3) w := run_underlying t22;have jw : ∀ ty W,(Builtin.append_ #[22,22] ty #[.slice (some ⟨w.heap.size,0,none⟩) 0 0,.slice (some a) 0 c]).run Tryz.prog W = .ok (.slice (some ⟨w.heap.size,0,none⟩) 0 0) W := fun ty W => Go.Am.kl t22 Px (aT 0)
 go_enter Tryz.func69,Tryz.ntmps69
 go_wp2_with (at_builtin; refine Lib.wpList_append_run _ rfl _ _ _ _ rfl _ _ rfl rfl _ _ (jw _ _) ?_)
 go_ret
 exact ⟨rfl,rfl⟩
set_option maxHeartbeats 1000000 in
theorem aaN (n c : Nat) (w : World) : Calls Tryz.prog 69 #[.slice none n c] w fun e w' => e = .returned (.slice none 0 0) /\ w' = w := by
 have t4 := Tryz.underlying4; have a4 := Tryz.isAgg4; have z4 := Tryz.sizeOf4; have v4 := Tryz.zeroValue4; have t22 := Tryz.underlying22; have a22 := Tryz.isAgg22; have z22 := Tryz.sizeOf22; have v22 := Tryz.zeroValue22;have mixed : Tryz.prog.follows .mixedOrders = true := by kernel_rfl
 have q22 : ∀ (w : World) (a : Option Addr) (n c n' c' : Nat),(binOp .eql 22 (.slice a n c) (.slice none n' c')).run Tryz.prog w = .ok (.bool a.isNone) w := fun w a n c n' c' => Lib.run_eql_slice_nil w _ _ a n c n' c' t22
 go_enter Tryz.func69,Tryz.ntmps69
 go_wp2
 go_ret
 exact ⟨rfl,rfl⟩
theorem Wq : (Tryz.prog.info? 60).map (fun i => (i.zero,i.size,i.bytes)) = some (some (.agg #[.int .i64 0,.int .i64 0]),2,16) := by kernel_rfl
set_option maxHeartbeats 2000000 in
set_option maxRecDepth 100000 in
theorem Wp (a : Addr) (c : Nat) (w : World) : Calls Tryz.prog 61 #[.slice (some a) 0 c] w fun e w' => e = .returned (.slice (some ⟨w.heap.size,0,none⟩) 0 0) /\ w' = w.alloc (.cells #[] 60) := by
 have t4 := Tryz.underlying4; have a4 := Tryz.isAgg4; have z4 := Tryz.sizeOf4; have v4 := Tryz.zeroValue4; have t22 := Tryz.underlying23; have a22 := Tryz.isAgg23; have z22 := Tryz.sizeOf23; have v22 := Tryz.zeroValue23; have z43 := Tryz.sizeOf60;have mixed : Tryz.prog.follows .mixedOrders = true := by kernel_rfl
 obtain ⟨i0,Px,_,_,_⟩ := info_parts Wq;have q22 : ∀ (w : World) (a : Option Addr) (n c n' c' : Nat),(binOp .eql 23 (.slice a n c) (.slice none n' c')).run Tryz.prog w = .ok (.bool a.isNone) w := fun w a n c n' c' => Lib.run_eql_slice_nil w _ _ a n c n' c' t22;have u22 : ∀ w,Sem.run Tryz.prog (underlying 23) w = .ok (TypeDesc.slice 60) w := run_underlying t22;have jw : ∀ ty W,(Builtin.append_ #[23,23] ty #[.slice (some ⟨w.heap.size,0,none⟩) 0 0,.slice (some a) 0 c]).run Tryz.prog W = .ok (.slice (some ⟨w.heap.size,0,none⟩) 0 0) W := fun ty W => Go.Am.kl t22 Px (aT 0)
 go_enter Tryz.func61,Tryz.ntmps61
 go_wp2_with (at_builtin; refine Lib.wpList_append_run _ rfl _ _ _ _ rfl _ _ rfl rfl _ _ (jw _ _) ?_)
 go_ret
 exact ⟨rfl,rfl⟩
set_option maxHeartbeats 1000000 in
theorem aaP (n c : Nat) (w : World) : Calls Tryz.prog 61 #[.slice none n c] w fun e w' => e = .returned (.slice none 0 0) /\ w' = w := by
 have t4 := Tryz.underlying4; have a4 := Tryz.isAgg4; have z4 := Tryz.sizeOf4; have v4 := Tryz.zeroValue4; have t22 := Tryz.underlying23; have a22 := Tryz.isAgg23; have z22 := Tryz.sizeOf23; have v22 := Tryz.zeroValue23;have mixed : Tryz.prog.follows .mixedOrders = true := by kernel_rfl
 have q22 : ∀ (w : World) (a : Option Addr) (n c n' c' : Nat),(binOp .eql 23 (.slice a n c) (.slice none n' c')).run Tryz.prog w = .ok (.bool a.isNone) w := fun w a n c n' c' => Lib.run_eql_slice_nil w _ _ a n c n' c' t22
 go_enter Tryz.func61,Tryz.ntmps61
 go_wp2
 go_ret
 exact ⟨rfl,rfl⟩
end Go.Proofs
namespace Go.Bm
open Go.Am Go.Shelf Go.Proofs
def Ug : List AV -> Heap -> Option (AV × Heap)
 | [.list 1 []],[] => some (.own 1 [],[])
 | _,_ => none
def Uh : List AV -> Heap -> Option (AV × Heap)
 | [.list 2 []],[] => some (.own 2 [],[])
 | _,_ => none
theorem To (k : Nat) (p : Rt) : az ⟨[(0,AV.own k [])],[]⟩ p = if p = .s 0 then some (k,[]) else none := by
 have CX : ∀ i,Am.get [(0,AV.own k [])] i = if i = 0 then .own k [] else .any := fun i => by simp only [Am.get]
 cases p with
 | s i =>
   simp only [az,at_,CX];by_cases hi : i = 0
   ·subst hi; simp
   ·simp [hi]
 | sc i j =>
   simp only [az,at_,CX];by_cases hi : i = 0
   ·subst hi; simp
   ·simp [hi]
 | c b j => simp [az,at_,aJ]
theorem yB {X : Nat -> Prop} {φ φ' : dF} {w w' : World} {B : Nat -> Nat} {v' : Value} {Ha : Heap} (k : Nat) (o : Option Nat) (hH : cJ X φ' w' Ha) (ho : ∀ n,o = some n -> aJ Ha n = some []) (hr : bI (Rd X φ' w') φ' (pd ⟨fun b => b,fun p => if p = .s 0 then o else none⟩ (.s 0) k 0) v') (a1 : fo φ w φ' w') : G7 X φ w B 0 (.own k []) [] (.returned v') w' := by
 have CX : ∀ i,Am.get [(0,AV.own k [])] i = if i = 0 then .own k [] else .any := fun i => by simp only [Am.get]
 refine ⟨v',φ',rfl,⟨⟨fun b => b,fun p => if p = .s 0 then o else none⟩,Ha,⟨fun i => ?_,fun i => ?_,hH,fun p k' xs e => ?_,fun b cs e => by simp [aJ] at e,fun p q n e f g1 g2 => ?_,fun b p e => by simp [aJ] at e,fun b c e => by simp [aJ] at e⟩,fun b hb => by omega,zG _⟩,a1⟩
 ·show bI _ _ (j9 _ i (Am.get [(0,AV.own k [])] i)) (if i = 0 then v' else undef);rw [CX];by_cases e : i = 0
  ·subst e;rw [if_pos rfl,if_pos rfl];exact hr
  ·rw [if_neg e,if_neg e]; exact .any _ _
 ·show cZ _ _ (Am.get [(0,AV.own k [])] i);rw [CX];split <;> trivial
 ·rw [To] at e;split at e
  case isFalse => cases e
  rename_i hp;cases e;subst hp;simp only [if_true];cases o with
  | none => rfl
  | some n => exact ⟨[],ho n rfl,by simp,by simp,fun i c hc => by simp [aA] at hc⟩
 ·rw [To] at e f;by_cases h1 : p = .s 0
  ·by_cases h2 : q = .s 0
   ·rw [h1,h2]
   ·rw [if_neg h2] at f; cases f
  ·rw [if_neg h1] at e; cases e
theorem aaM {args : List AV} {H : Heap} {r : AV} {H' : Heap} (hg : Ug args H = some (r,H')) {X : Nat -> Prop} {φ : dF} {w : World} {B : Nat -> Nat} {vargs : Array Value} (hl : args.length = vargs.size) (hs : SB X φ w B H.length ⟨ei 0 args,H⟩ (fun i => vargs.getD i undef)) :
  Calls af 69 vargs w (G7 X φ w B H.length r H') := by
 unfold Ug at hg;split at hg
 case h_2 => cases hg
 simp only [ah,aF] at hg;obtain ⟨rfl,rfl⟩ := hg;obtain ⟨N,Ha,h,hb⟩ := hs;have kM : vargs.size = 1 := by simpa using hl.symm
 obtain ⟨v,rfl⟩ : ∃ v,vargs = #[v] := ⟨vargs[0],by apply Array.ext <;> simp [kM]; intro i hi; simp [show i = 0 by omega]⟩;have r0 : bI (Rd X φ w) φ (.list 1 []) v := h.env 0;cases r0 with
 | qC _ _ _ a n cap u hn fD hk hu h' =>
   simp at hn;subst hn;refine (Wn a cap w).mono ?_;rintro e w' ⟨rfl,rfl⟩;have a1 : fo [] w [] (w.alloc (.cells #[] 3)) := ⟨rfl,rfl,rfl,aT _,by show w.heap.size <= (w.heap.push _).size; simp,fun g hg h => ⟨by show (w.heap.push _)[g]? = _; rw [Lo hg,dX hg],h⟩,.refl _⟩;have fQ : (w.alloc (.cells #[] 3)).heap[w.heap.size]? = some (.cells #[] 3 (0,0)) := by show (w.heap.push _)[w.heap.size]? = _; simp
   obtain ⟨k1,k2⟩ := h.heap.UB a1 (aT _) fQ;refine yB 1 (some Ha.length) k1 (fun n hn => ?_) ?_ k2
   ·cases hn;simp [aJ]
   ·show bI _ _ (.sl 1 Ha.length 0 0) _;refine .sl _ _ _ _ _ _ _ (by simp [h.heap.len]) (zG _) fun g' lk hq => ?_;rw [<- h.heap.len,aK (aT _)] at hq;simp at hq;obtain ⟨rfl,rfl⟩ := hq;exact ⟨fun _ => rfl,by omega⟩
 | jC =>
   refine (aaN 0 0 w).mono ?_;rintro e w' ⟨rfl,rfl⟩;exact yB 1 none h.heap (fun n hn => by cases hn) (.dJ _) (.refl _ _)
theorem aaO {args : List AV} {H : Heap} {r : AV} {H' : Heap} (hg : Uh args H = some (r,H')) {X : Nat -> Prop} {φ : dF} {w : World} {B : Nat -> Nat} {vargs : Array Value} (hl : args.length = vargs.size) (hs : SB X φ w B H.length ⟨ei 0 args,H⟩ (fun i => vargs.getD i undef)) :
  Calls af 61 vargs w (G7 X φ w B H.length r H') := by
 unfold Uh at hg;split at hg
 case h_2 => cases hg
 simp only [ah,aF] at hg;obtain ⟨rfl,rfl⟩ := hg;obtain ⟨N,Ha,h,hb⟩ := hs;have kM : vargs.size = 1 := by simpa using hl.symm
 obtain ⟨v,rfl⟩ : ∃ v,vargs = #[v] := ⟨vargs[0],by apply Array.ext <;> simp [kM]; intro i hi; simp [show i = 0 by omega]⟩;have r0 : bI (Rd X φ w) φ (.list 2 []) v := h.env 0;cases r0 with
 | qC _ _ _ a n cap u hn fD hk hu h' =>
   simp at hn;subst hn;refine (Wp a cap w).mono ?_;rintro e w' ⟨rfl,rfl⟩;have a1 : fo [] w [] (w.alloc (.cells #[] 60)) := ⟨rfl,rfl,rfl,aT _,by show w.heap.size <= (w.heap.push _).size; simp,fun g hg h => ⟨by show (w.heap.push _)[g]? = _; rw [Lo hg,dX hg],h⟩,.refl _⟩;have fQ : (w.alloc (.cells #[] 60)).heap[w.heap.size]? = some (.cells #[] 60 (0,0)) := by show (w.heap.push _)[w.heap.size]? = _; simp
   obtain ⟨k1,k2⟩ := h.heap.UB a1 (aT _) fQ;refine yB 2 (some Ha.length) k1 (fun n hn => ?_) ?_ k2
   ·cases hn;simp [aJ]
   ·show bI _ _ (.sl 2 Ha.length 0 0) _;refine .sl _ _ _ _ _ _ _ (by simp [h.heap.len]) (zG _) fun g' lk hq => ?_;rw [<- h.heap.len,aK (aT _)] at hq;simp at hq;obtain ⟨rfl,rfl⟩ := hq;exact ⟨fun _ => rfl,by omega⟩
 | jC =>
   refine (aaP 0 0 w).mono ?_;rintro e w' ⟨rfl,rfl⟩;exact yB 2 none h.heap (fun n hn => by cases hn) (.dJ _) (.refl _ _)
end Go.Bm
