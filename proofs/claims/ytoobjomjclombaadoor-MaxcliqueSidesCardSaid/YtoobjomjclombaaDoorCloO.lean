/- The library's clone of an empty slice, of ints and of pairs, as an own empty slice. -/
import Derived.Test.YtoobjomjclombaaDoorRvG
import Derived.Test.YtoobjomjclombaaDoorMe
import Derived.Test.YtoobjomjclombaaDoorBmP
import Derived.Shelf.Spec.SlicesInsertGrow
import Derived.Test.YtoobjomjclombaaDoorSrtO
import Derived.Shelf.Slices.CompactI
namespace Go.Am
theorem HRel.adopt {X : Nat -> Prop} {φ : Phi} {w w' : World} {H : Heap} (h : HRel X φ w H) (a1 : Adv [] w [] w') {g : Nat} {cur : Array Value} {e : TypeId} (hg : w.heap.size <= g) (hw : w'.heap[g]? = some (.cells cur e (0,0))) :
  HRel X (φ ++ [some (g,cur.size)]) w' (H ++ [some []]) /\ Adv φ w (φ ++ [some (g,cur.size)]) w' := by
 have own : ∀ g,Owned φ g -> g < w.heap.size := by
  intro g ⟨b,sz,hb⟩;have hlt : b < H.length := h.len ▸ lt_of_getElem? hb;obtain ⟨x,hx⟩ := getElem?_some_of hlt;cases x with
  | none => rw [h.dead b hx] at hb; simp at hb
  | some cs =>
    obtain ⟨g',sz',arr,e,h1,h2,_⟩ := h.live b cs hx;rw [h1] at hb;simp at hb;rw [<- hb.1];exact (Array.getElem?_eq_some_iff.1 h2).1
 have a : Adv φ w (φ ++ [some (g,cur.size)]) w' := by
  refine ⟨a1.os,a1.tape,a1.output,a1.drawn,a1.size,fun k hk hn => ⟨(a1.keep k hk (Owned.nil k)).1,?_⟩,⟨by simp,fun b p hb hp => ?_⟩⟩
  ·rintro ⟨b,sz,hb⟩;by_cases hlt : b < φ.length
   ·rw [List.getElem?_append_left hlt] at hb;exact hn ⟨b,sz,hb⟩
   ·have hb' := lt_of_getElem? hb;simp at hb';have hbe : b = φ.length := by omega
    subst hbe;simp at hb;omega
  ·rwa [List.getElem?_append_left hb] at hp
 refine ⟨⟨by simp [h.len],fun k hk => Nat.lt_of_lt_of_le (h.xlt k hk) a1.size,fun b ds hb => ?_,fun b hb => ?_,fun b b' k sz sz' h1 h2 => ?_⟩,a⟩
 ·by_cases hlt : b < H.length
  ·rw [List.getElem?_append_left hlt] at hb;obtain ⟨k,sz,ar,e',h1,h2,h3,h4,h5,h6⟩ := h.live b ds hb;refine ⟨k,sz,ar,e',by rw [List.getElem?_append_left (by rw [h.len]; exact hlt)]; exact h1,?_,h3,h4,h5,fun i c hc => ?_⟩
   ·rw [(a1.keep k (Array.getElem?_eq_some_iff.1 h2).1 (Owned.nil k)).1]; exact h2
   ·obtain ⟨u,hu,r⟩ := h6 i c hc;exact ⟨u,hu,a.rep r⟩
  ·have hb' := lt_of_getElem? hb;simp at hb';have hbe : b = H.length := by omega
   subst hbe;simp at hb;subst hb;exact ⟨g,cur.size,cur,e,by rw [<- h.len]; simp,hw,rfl,by simp,fun hx => by have := h.xlt _ hx; omega,fun i c hi => by simp at hi⟩
 ·by_cases hlt : b < H.length
  ·rw [List.getElem?_append_left hlt] at hb;rw [List.getElem?_append_left (by rw [h.len]; exact hlt)];exact h.dead b hb
  ·have hb' := lt_of_getElem? hb;simp at hb';have hbe : b = H.length := by omega
   subst hbe;simp at hb
 ·have new : ∀ (b k sz : Nat),(φ ++ [some (g,cur.size)])[b]? = some (some (k,sz)) -> (b < φ.length /\ φ[b]? = some (some (k,sz)) /\ k < w.heap.size) \/ (b = φ.length /\ k = g) := by
   intro b k sz hb;by_cases hlt : b < φ.length
   ·rw [List.getElem?_append_left hlt] at hb;exact .inl ⟨hlt,hb,own k ⟨b,sz,hb⟩⟩
   ·have hb' := lt_of_getElem? hb;simp at hb';have hbe : b = φ.length := by omega
    subst hbe;simp at hb;exact .inr ⟨rfl,hb.1.symm⟩
  rcases new b k sz h1 with ⟨l1,e1,g1⟩ | ⟨l1,g1⟩ <;> rcases new b' k sz' h2 with ⟨l2,e2,g2⟩ | ⟨l2,g2⟩
  ·exact h.inj b b' k sz sz' e1 e2
  ·omega
  ·omega
  ·omega
end Go.Am
namespace Go.Proofs
open Go.Shelf Go.RowKit Go.Lib
theorem cloI_info : (Tryd.prog.info? 3).map (fun i => (i.zero,i.size,i.bytes)) = some (some (.int .i64 0),1,8) := by kernel_rfl
set_option maxHeartbeats 2000000 in
set_option maxRecDepth 100000 in
theorem cloI_zero (a : Addr) (c : Nat) (w : World) : Calls Tryd.prog 88 #[.slice (some a) 0 c] w fun e w' => e = .returned (.slice (some ⟨w.heap.size,0,none⟩) 0 0) /\ w' = w.alloc (.cells #[] 3) := by
 have t4 := Tryd.underlying4; have a4 := Tryd.isAgg4; have z4 := Tryd.sizeOf4; have v4 := Tryd.zeroValue4; have t22 := Tryd.underlying22; have a22 := Tryd.isAgg22; have z22 := Tryd.sizeOf22; have v22 := Tryd.zeroValue22; have z43 := Tryd.sizeOf3;have mixed : Tryd.prog.follows .mixedOrders = true := by kernel_rfl
 obtain ⟨i0,hi0,_,_,_⟩ := info_parts cloI_info;have q22 : ∀ (w : World) (a : Option Addr) (n c n' c' : Nat),(binOp .eql 22 (.slice a n c) (.slice none n' c')).run Tryd.prog w = .ok (.bool a.isNone) w := fun w a n c n' c' => Lib.run_eql_slice_nil w _ _ a n c n' c' t22;have u22 : ∀ w,Sem.run Tryd.prog (underlying 22) w = .ok (TypeDesc.slice 3) w := run_underlying t22;have hrun : ∀ ty W,(Builtin.append_ #[22,22] ty #[.slice (some ⟨w.heap.size,0,none⟩) 0 0,.slice (some a) 0 c]).run Tryd.prog W = .ok (.slice (some ⟨w.heap.size,0,none⟩) 0 0) W := fun ty W => Go.Am.run_append_zero t22 hi0 (Nat.le_refl 0)
 go_enter Tryd.func88,Tryd.ntmps88
 go_wp2_with (at_builtin; refine Lib.wpList_append_run _ rfl _ _ _ _ rfl _ _ rfl rfl _ _ (hrun _ _) ?_)
 go_ret
 exact ⟨rfl,rfl⟩
set_option maxHeartbeats 1000000 in
theorem cloI_nil (n c : Nat) (w : World) : Calls Tryd.prog 88 #[.slice none n c] w fun e w' => e = .returned (.slice none 0 0) /\ w' = w := by
 have t4 := Tryd.underlying4; have a4 := Tryd.isAgg4; have z4 := Tryd.sizeOf4; have v4 := Tryd.zeroValue4; have t22 := Tryd.underlying22; have a22 := Tryd.isAgg22; have z22 := Tryd.sizeOf22; have v22 := Tryd.zeroValue22;have mixed : Tryd.prog.follows .mixedOrders = true := by kernel_rfl
 have q22 : ∀ (w : World) (a : Option Addr) (n c n' c' : Nat),(binOp .eql 22 (.slice a n c) (.slice none n' c')).run Tryd.prog w = .ok (.bool a.isNone) w := fun w a n c n' c' => Lib.run_eql_slice_nil w _ _ a n c n' c' t22
 go_enter Tryd.func88,Tryd.ntmps88
 go_wp2
 go_ret
 exact ⟨rfl,rfl⟩
end Go.Proofs
namespace Go.Bm
open Go.Am Go.Shelf Go.Proofs
def gCloW : List AV -> Heap -> Option (AV × Heap)
 | [.list 1 []],[] => some (.own 1 [],[])
 | _,_ => none
end Go.Bm
/- The library's clone of an empty slice and compact of ints, as the machine by value knows them. -/
namespace Go.Bm
open Go.Am Go.Sort Go.Shelf Go.Proofs
theorem ret_nil {X : Nat -> Prop} {φ : Phi} {w w' : World} {N : Names} {s : St} {Ha : Heap} {t : Nat -> Value} {B : Nat -> Nat} {v' : Value} {k : Nat} (h : Sim X φ w N s Ha t) (a1 : Adv [] w [] w') (hr : Rep (Rd X φ w') φ (.list k []) v') : RetB X φ w B 0 (.list k []) [] (.returned v') w' := by
 have hgi : ∀ i,Am.get [(0,AV.list k [])] i = if i = 0 then .list k [] else .any := fun i => by simp only [Am.get]
 have hno : ∀ p,ownAt ⟨[(0,AV.list k [])],[]⟩ p = none := by
  intro p;cases p with
  | s i =>
    simp only [ownAt,at_,hgi];by_cases hi : i = 0
    ·rw [if_pos hi]
    ·rw [if_neg hi]
  | sc i j =>
    simp only [ownAt,at_,hgi];by_cases hi : i = 0
    ·rw [if_pos hi]
    ·rw [if_neg hi]
  | c b j => simp [ownAt,at_,blk]
 refine ⟨v',φ,rfl,⟨⟨N.β,fun _ => none⟩,Ha,⟨fun i => ?_,fun i => ?_,h.heap.of_same a1,fun p k' xs e => ?_,fun b cs e => by simp [blk] at e,fun p q n e => ?_,fun b p e => by simp [blk] at e,fun b c e => by simp [blk] at e⟩,fun b hb => by omega,Nat.zero_le _⟩,.of_same a1⟩
 ·show Rep _ _ (trS _ i (Am.get [(0,AV.list k [])] i)) (if i = 0 then v' else undef);rw [hgi];by_cases e : i = 0
  ·rw [if_pos e,if_pos e]; exact hr
  ·rw [if_neg e,if_neg e]; exact .any _ _
 ·show okV _ _ (Am.get [(0,AV.list k [])] i);rw [hgi];split <;> trivial
 ·rw [hno] at e; cases e
 ·rw [hno] at e; cases e
theorem clo_orc {args : List AV} {H : Heap} {r : AV} {H' : Heap} (hg : gClo args H = some (r,H')) {X : Nat -> Prop} {φ : Phi} {w : World} {B : Nat -> Nat} {vargs : Array Value} (hl : args.length = vargs.size) (hs : SB X φ w B H.length ⟨mkEnv 0 args,H⟩ (fun i => vargs.getD i undef)) :
  Calls Go.Proofs.Tryd.prog 88 vargs w (RetB X φ w B H.length r H') := by
 unfold gClo at hg;split at hg
 case h_2 => cases hg
 simp only [Option.some.injEq,Prod.mk.injEq] at hg;obtain ⟨rfl,rfl⟩ := hg;obtain ⟨N,Ha,h,hb⟩ := hs;have hsz : vargs.size = 1 := by simpa using hl.symm
 obtain ⟨v,rfl⟩ : ∃ v,vargs = #[v] := ⟨vargs[0],by apply Array.ext <;> simp [hsz]; intro i hi; simp [show i = 0 by omega]⟩;have r0 : Rep (Rd X φ w) φ (.list 1 []) v := h.env 0;cases r0 with
 | lst _ _ _ a n cap u hn hcap hk hu h' =>
   simp at hn;subst hn;refine (cloI_zero a cap w).mono ?_;rintro e w' ⟨rfl,rfl⟩;have a1 : Adv [] w [] (w.alloc (.cells #[] 3)) := ⟨rfl,rfl,rfl,Nat.le_refl _,by show w.heap.size <= (w.heap.push _).size; simp,fun g hg h => ⟨by show (w.heap.push _)[g]? = _; rw [Array.getElem?_push_lt hg,Array.getElem?_eq_getElem hg],h⟩,.refl _⟩;exact ret_nil h a1 (.lst _ _ _ _ _ _ (fun _ _ => undef) (by simp) (by omega) (fun x hx => by simp at hx) (fun i j x c hx => by simp at hx) (fun i j x c hx => by simp at hx))
 | lst0 =>
   refine (cloI_nil 0 0 w).mono ?_;rintro e w' ⟨rfl,rfl⟩;exact ret_nil h (.refl _ _) (.lst0 _ _)
theorem dd_last : ∀ (l : List Int) (z : Int),dd (l ++ [z]) = dd l ++ (if l.getLast? = some z then [] else [z])
 | [],z => by simp [dd]
 | [x],z => by
   by_cases h : x = z
   ·subst h; simp [dd]
   ·simp [dd,h]
 | x :: y :: r,z => by
   have ih := dd_last (y :: r) z;simp only [List.cons_append] at ih ⊢;unfold dd;rw [ih];have e : (x :: y :: r).getLast? = (y :: r).getLast? := by simp [List.getLast?_cons]
   rw [e];split <;> rfl
theorem cut_app (l : List Int) (z : Int) : ∀ m,m <= l.length -> Lib.compactUpTo (l ++ [z]).toArray m = Lib.compactUpTo l.toArray m
 | 0,_ => rfl
 | m + 1,hm => by
   rw [Lib.compactUpTo_succ,Lib.compactUpTo_succ,cut_app l z m (by omega)]
   have g : ∀ j,j < l.length -> (l ++ [z]).toArray[j]! = l.toArray[j]! := fun j hj => by
    simp [hj,show j < l.length + 1 by omega]
   have k : Lib.keeps (l ++ [z]).toArray m = Lib.keeps l.toArray m := by
    simp only [Lib.keeps,g m (by omega),g (m - 1) (by omega)]
   rw [k,g m (by omega)]
theorem compact_dd (l : List Int) : Lib.compact l = dd l := by
 have key : ∀ n (l : List Int),l.length = n -> Lib.compact l = dd l := by
  intro n
  induction n with
  | zero => intro l h; obtain rfl := List.length_eq_zero_iff.1 h; rfl
  | succ n ih =>
    intro l h;obtain ⟨r,z,rfl⟩ : ∃ r z,l = r ++ [z] := ⟨l.dropLast,l.getLast (by intro e; subst e; simp at h),(List.dropLast_concat_getLast _).symm⟩;have hr : r.length = n := by simpa using h
    have ih := ih r hr;unfold Lib.compact at ih ⊢;rw [List.length_append,List.length_singleton,Lib.compactUpTo_succ,cut_app r z r.length (Nat.le_refl _),ih,dd_last];congr 1;have g : (r ++ [z]).toArray[r.length]! = z := by simp
    rw [g];by_cases h0 : r = []
    ·subst h0; rfl
    ·have hp : 0 < r.length := List.length_pos_iff.2 h0
     have g2 : (r ++ [z]).toArray[r.length - 1]! = r.getLast h0 := by
      rw [List.getLast_eq_getElem];simp [show r.length - 1 < r.length by omega,show r.length - 1 < r.length + 1 by omega]
     rw [List.getLast?_eq_some_getLast h0];by_cases he : r.getLast h0 = z
     ·have : Lib.keeps (r ++ [z]).toArray r.length = false := Lib.keeps_neg hp (by rw [g,g2,he]);rw [this,he]; simp
     ·have : Lib.keeps (r ++ [z]).toArray r.length = true := Lib.keeps_pos (by rw [g,g2]; exact fun e => he e.symm);rw [this,if_pos rfl,if_neg];intro e; exact he (Option.some.inj e)
 exact key _ l rfl
theorem compact_inp {P : Program} {ρ : Go.Shelf.Ren} (Ly : Lays2.n20 P ρ) {k : Nat} {xs es ys : List AV} {res : Option Nat} (hg : cptG k xs es = some (ys,res)) :
  ((ys.length = xs.length /\ (∀ y ∈ ys,y.cells.length = k)) /\ ((∀ y ∈ ys,∀ d ∈ y.cells,fz d = true) /\ ∀ m,res = some m -> m <= xs.length)) /\
 (xs = [] -> ∀ (X : Nat -> Prop) (φ : Phi) (w : World) (vargs : Array Value) v0 y,(y = .nils \/ y = .list k []) -> es.length + 1 = vargs.size -> vargs[0]? = some v0 -> Rep (Rd X φ w) φ y v0 -> (∀ (i : Nat) (e : AV) (v : Value),es[i]? = some e -> vargs[i + 1]? = some v -> Rep (Rd X φ w) [] e v) ->
  Calls P (ρ.f 20) vargs w (fun e w' => ∃ v',e = .returned v' /\ Rep (Rd X φ w') φ (match (generalizing := false) res with
   | none => .tup []
   | some _ => y) v' /\ Adv [] w [] w')) /\
 ∀ (X : Nat -> Prop) (φ : Phi) (w : World) Ha n rest (vargs : Array Value) v0,HRel X φ w Ha -> blk Ha n = some (flatCells (xs ++ rest)) -> es.length + 1 = vargs.size -> vargs[0]? = some v0 -> Rep (Rd X φ w) φ (.sl k n 0 xs.length) v0 -> (∀ (i : Nat) (e : AV) (v : Value),es[i]? = some e -> vargs[i + 1]? = some v -> Rep (Rd X φ w) [] e v) ->
  Calls P (ρ.f 20) vargs w (fun e w' => ∃ v' φ',e = .returned v' /\ Rep (Rd X φ' w') φ' (match (generalizing := false) res with
   | none => .tup []
   | some m => .sl k n 0 m) v' /\ HRel X φ' w' (Ha.set n (some (flatCells (ys ++ rest)))) /\ Adv φ w φ' w') := by
 unfold cptG at hg;split at hg
 case h_2 => cases hg
 split at hg
 case isFalse => cases hg
 rename_i hlim;cases hzs : intsOf xs with
 | none => rw [hzs] at hg; cases hg
 | some zs =>
 rw [hzs] at hg;simp only [Option.some.injEq,Prod.mk.injEq] at hg;obtain ⟨rfl,rfl⟩ := hg;have hx := intsOf_eq hzs;subst hx;have hdl := dd_len zs;refine ⟨⟨⟨by simp; omega,fun y hy => (ints_cells hy).1⟩,fun y hy => (ints_cells hy).2,fun m hm => by cases hm; simpa using hdl⟩,fun hnil X φ w vargs v0 y hy hs h0 hr _ => ?_,fun X φ w Ha n rest vargs v0 hh hb hs h0 hr _ => ?_⟩
 ·obtain ⟨p,cap,rfl⟩ := nil_slice hy hr;obtain rfl := one_arg hs h0;refine (Any.slices_Compact_int_empty Ly p cap w).mono ?_;rintro e w' ⟨rfl,rfl⟩;exact ⟨_,rfl,hr,.refl _ _⟩
 ·have ha := arel_one (by simpa using hs.symm) h0 hr;by_cases hz : zs = []
  ·subst hz
   have e : Ha.set n (some (flatCells ((dd [] ++ List.replicate (([] : List Int).length - (dd []).length) 0).map (AV.int .i64) ++ rest))) = Ha := by
    apply List.ext_getElem?;intro j;rw [List.getElem?_set];split
    ·rename_i e; subst e;rw [if_pos (blk_lt hb),blk_iff.1 hb]; rfl
    ·rfl
   rw [e];exact compact_ret Ly (args := [.sl 1 n 0 0]) (H := Ha) (r := .sl 1 n 0 0) (H' := Ha) rfl ha hh
  ·have hzl : zs.length ≠ 0 := fun h => hz (List.eq_nil_of_length_eq_zero h);have hfl : flatCells (zs.map (AV.int .i64) ++ rest) = zs.map (AV.int .i64) ++ flatCells rest := by rw [flatCells_app,flat_ints]
   have e : gCompact [.sl 1 n 0 zs.length] Ha = some (.sl 1 n 0 (dd zs).length,Ha.set n (some (flatCells ((dd zs ++ List.replicate (zs.length - (dd zs).length) 0).map (AV.int .i64) ++ rest)))) := by
    unfold gCompact;simp only [if_neg hzl,hb,hfl];rw [if_pos ⟨by simp,by simpa using hlim⟩];have ht : ((zs.map (AV.int .i64) ++ flatCells rest).drop 0).take zs.length = zs.map (AV.int .i64) := by simp
    rw [ht,intsOf_ints];simp only [cpt,compact_dd];rw [if_pos hdl,flatCells_app,flat_ints];unfold ovw;have hl2 : (List.map (AV.int .i64) (dd zs ++ List.replicate (zs.length - (dd zs).length) 0)).length = zs.length := by simp; omega
    rw [hl2];simp
   have hl : (zs.map (AV.int .i64)).length = zs.length := by simp
   rw [hl] at ha;exact compact_ret Ly e ha hh
end Go.Bm
