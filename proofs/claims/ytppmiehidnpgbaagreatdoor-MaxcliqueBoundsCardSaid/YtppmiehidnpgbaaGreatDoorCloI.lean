/- The library's clone of an empty slice, of ints and of pairs, as an own empty slice. -/
import Derived.Test.YtppmiehidnpgbaaGreatDoorGrfP
import Derived.Test.YtppmiehidnpgbaaGreatDoorMe
import Derived.Test.YtppmiehidnpgbaaGreatDoorBmP
import Derived.Shelf.Spec.SlicesInsertGrow
open Array renaming getElem?_eq_some_iff → eK
open List renaming getElem?_append_left → az
namespace Go.Am
theorem cG.aeM {X : Nat -> Prop} {φ : dy} {w w' : World} {H : Heap} (h : cG X φ w H) (a1 : fJ [] w [] w') {g : Nat} {cur : Array Value} {e : TypeId} (hg : w.heap.size <= g) (hw : w'.heap[g]? = some (.cells cur e (0,0))) :
  cG X (φ ++ [some (g,cur.size)]) w' (H ++ [some []]) /\ fJ φ w (φ ++ [some (g,cur.size)]) w' := by
 have own : ∀ g,bQ φ g -> g < w.heap.size := by
  intro g ⟨b,sz,hb⟩;have bL : b < H.length := h.len ▸ aA hb;obtain ⟨x,hx⟩ := aZ bL;cases x with
  | none => rw [h.dead b hx] at hb; simp at hb
  | some cs =>
    obtain ⟨g',nx,arr,e,h1,h2,_⟩ := h.live b cs hx;rw [h1] at hb;simp at hb;rw [<- hb.1];exact (eK.1 h2).1
 have a : fJ φ w (φ ++ [some (g,cur.size)]) w' := by
  refine ⟨a1.os,a1.tape,a1.output,a1.drawn,a1.size,fun k hk hn => ⟨(a1.keep k hk (bQ.nil k)).1,?_⟩,⟨by simp,fun b p hb hp => ?_⟩⟩
  ·rintro ⟨b,sz,hb⟩;by_cases bL : b < φ.length
   ·rw [az bL] at hb;exact hn ⟨b,sz,hb⟩
   ·have ia := aA hb;simp at ia;have CF : b = φ.length := by omega
    subst CF;simp at hb;omega
  ·rwa [az hb] at hp
 refine ⟨⟨by simp [h.len],fun k hk => Nat.lt_of_lt_of_le (h.Dh k hk) a1.size,fun b ds hb => ?_,fun b hb => ?_,fun b b' k sz nx h1 h2 => ?_⟩,a⟩
 ·by_cases bL : b < H.length
  ·rw [az bL] at hb;obtain ⟨k,sz,ar,e',h1,h2,h3,h4,h5,h6⟩ := h.live b ds hb;refine ⟨k,sz,ar,e',by rw [az (by rw [h.len]; exact bL)]; exact h1,?_,h3,h4,h5,fun i c hc => ?_⟩
   ·rw [(a1.keep k (eK.1 h2).1 (bQ.nil k)).1]; exact h2
   ·obtain ⟨u,hu,r⟩ := h6 i c hc;exact ⟨u,hu,a.rep r⟩
  ·have ia := aA hb;simp at ia;have CF : b = H.length := by omega
   subst CF;simp at hb;subst hb;exact ⟨g,cur.size,cur,e,by rw [<- h.len]; simp,hw,rfl,by simp,fun hx => by have := h.Dh _ hx; omega,fun i c hi => by simp at hi⟩
 ·by_cases bL : b < H.length
  ·rw [az bL] at hb;rw [az (by rw [h.len]; exact bL)];exact h.dead b hb
  ·have ia := aA hb;simp at ia;have CF : b = H.length := by omega
   subst CF;simp at hb
 ·have new : ∀ (b k sz : Nat),(φ ++ [some (g,cur.size)])[b]? = some (some (k,sz)) -> (b < φ.length /\ φ[b]? = some (some (k,sz)) /\ k < w.heap.size) \/ (b = φ.length /\ k = g) := by
   intro b k sz hb;by_cases bL : b < φ.length
   ·rw [az bL] at hb;exact .inl ⟨bL,hb,own k ⟨b,sz,hb⟩⟩
   ·have ia := aA hb;simp at ia;have CF : b = φ.length := by omega
    subst CF;simp at hb;exact .inr ⟨rfl,hb.1.symm⟩
  rcases new b k sz h1 with ⟨l1,e1,g1⟩ | ⟨l1,g1⟩ <;> rcases new b' k nx h2 with ⟨l2,e2,g2⟩ | ⟨l2,g2⟩
  ·exact h.inj b b' k sz nx e1 e2
  ·omega
  ·omega
  ·omega
end Go.Am
namespace Go.Proofs
open Go.Shelf Go.RowKit Go.Lib
theorem Ws : (Tryz.prog.info? 3).map (fun i => (i.zero,i.size,i.bytes)) = some (some (.int .i64 0),1,8) := by kernel_rfl
set_option maxHeartbeats 2000000 in
set_option maxRecDepth 100000 in
theorem Wr (a : Addr) (c : Nat) (w : World) : Calls Tryz.prog 83 #[.slice (some a) 0 c] w fun e w' => e = .returned (.slice (some ⟨w.heap.size,0,none⟩) 0 0) /\ w' = w.alloc (.cells #[] 3) := by
 have t4 := Tryz.underlying4; have a4 := Tryz.isAgg4; have z4 := Tryz.sizeOf4; have v4 := Tryz.zeroValue4; have t22 := Tryz.underlying22; have a22 := Tryz.isAgg22; have z22 := Tryz.sizeOf22; have v22 := Tryz.zeroValue22; have z43 := Tryz.sizeOf3;have mixed : Tryz.prog.follows .mixedOrders = true := by kernel_rfl
 obtain ⟨i0,hi0,_,_,_⟩ := info_parts Ws;have q22 : ∀ (w : World) (a : Option Addr) (n c n' c' : Nat),(binOp .eql 22 (.slice a n c) (.slice none n' c')).run Tryz.prog w = .ok (.bool a.isNone) w := fun w a n c n' c' => Lib.run_eql_slice_nil w _ _ a n c n' c' t22;have u22 : ∀ w,Sem.run Tryz.prog (underlying 22) w = .ok (TypeDesc.slice 3) w := run_underlying t22;have l8 : ∀ ty W,(Builtin.append_ #[22,22] ty #[.slice (some ⟨w.heap.size,0,none⟩) 0 0,.slice (some a) 0 c]).run Tryz.prog W = .ok (.slice (some ⟨w.heap.size,0,none⟩) 0 0) W := fun ty W => Go.Am.nY t22 hi0 (Nat.le_refl 0)
 go_enter Tryz.func83,Tryz.ntmps83
 go_wp2_with (at_builtin; refine Lib.wpList_append_run _ rfl _ _ _ _ rfl _ _ rfl rfl _ _ (l8 _ _) ?_)
 go_ret
 exact ⟨rfl,rfl⟩
set_option maxHeartbeats 1000000 in
theorem aac (n c : Nat) (w : World) : Calls Tryz.prog 83 #[.slice none n c] w fun e w' => e = .returned (.slice none 0 0) /\ w' = w := by
 have t4 := Tryz.underlying4; have a4 := Tryz.isAgg4; have z4 := Tryz.sizeOf4; have v4 := Tryz.zeroValue4; have t22 := Tryz.underlying22; have a22 := Tryz.isAgg22; have z22 := Tryz.sizeOf22; have v22 := Tryz.zeroValue22;have mixed : Tryz.prog.follows .mixedOrders = true := by kernel_rfl
 have q22 : ∀ (w : World) (a : Option Addr) (n c n' c' : Nat),(binOp .eql 22 (.slice a n c) (.slice none n' c')).run Tryz.prog w = .ok (.bool a.isNone) w := fun w a n c n' c' => Lib.run_eql_slice_nil w _ _ a n c n' c' t22
 go_enter Tryz.func83,Tryz.ntmps83
 go_wp2
 go_ret
 exact ⟨rfl,rfl⟩
end Go.Proofs
namespace Go.Bm
open Go.Am Go.Shelf Go.Proofs
def ai6 : List AV -> Heap -> Option (AV × Heap)
 | [.list 1 []],[] => some (.own 1 [],[])
 | _,_ => none
end Go.Bm
