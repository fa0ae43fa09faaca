/- The library's sort of ints as an oracle of the abstract machine. -/
import Derived.Test.YtppmiehidnpgbaaGreatDoorGrfP
import Derived.Shelf.Sort.Plain
import Derived.Shelf.Slices.In.SortNone
import Derived.Shelf.Slices.CompactI
import Derived.Shelf.Lay
open Array renaming ext_getElem? → Vj
open Go.Shelf renaming Ren → wL
open List renaming getElem?_append → Q6, getElem?_drop → aU, getElem?_map → cq, getElem?_take → bF, replicate → aF
open Nat renaming le_refl → aT
open Option renaming map_some → dc
open Option.some renaming injEq → ah
namespace Go.Am
open Go.Sort Go.Shelf Go.Proofs
def sorted (zs : List Int) : List Int := zs.mergeSort fun x y => decide (x <= y)
def Uy : List AV -> Heap -> Option (AV × Heap)
 | [.dz],H => some (.dB [],H)
 | [.list 1 []],H => some (.dB [],H)
 | [.sl 1 b off len],H => if len = 0 then some (.dB [],H) else match aN H b with
   | some cs => if off + len <= cs.length /\ len <= lj then match jr ((cs.drop off).take len) with
     | some zs => some (.dB [],H.set b (some (jv cs off ((sorted zs).map (AV.int .i64)))))
     | none => none
     else none
   | none => none
 | _,_ => none
theorem Hp {α : Type} [Inhabited α] (enc : α -> Value) (w : World) (g off : Nat) (d : Array α) {arr : Array Value} {e : TypeId} {fr : Nat × Nat} (hg : w.heap[g]? = some (.cells arr e fr)) : putRow enc w g off d = w.setRow g (putCells enc off d arr) := by
 unfold putRow mapBlock World.setRow;congr 1;apply Vj;intro k;simp only [Array.getElem?_modify];by_cases hk : g = k
 ·subst hk;simp [hg,onCells]
 ·simp [hk]
theorem wS (zs : List Int) : (sorted zs).length = zs.length := List.length_mergeSort _
theorem KL {X : Nat -> Prop} {φ : dy} {w : World} {H : Heap} {b off len : Nat} {v : Value} {cs : List AV} {zs : List Int} (hh : cG X φ w H) (hv : bT (Rd X φ w) φ (.sl 1 b off len) v) (h0 : len ≠ 0) (dP : aN H b = some cs) (hlen : off + len <= cs.length)
  (Lk : jr ((cs.drop off).take len) = some zs) :
  ∃ g cap,v = .slice (some ⟨g,off,none⟩) len cap /\ len <= cap /\ zs.length = len /\ Holds (Value.int .i64) w g off zs.toArray /\ g < w.heap.size /\
   (∀ (R : Addr -> Value -> Prop) (m : Nat),m <= cap -> bT R φ (.sl 1 b off m) (.slice (some ⟨g,off,none⟩) m cap)) /\
   ∀ (ds : List Int),ds.length = len -> ∀ (n : Nat) (os : Array Obj),cG X φ (grow (putRow (Value.int .i64) (Sort.ahead w n) g off ds.toArray) os) (H.set b (some (jv cs off (ds.map (AV.int .i64))))) /\ fJ φ w φ (grow (putRow (Value.int .i64) (Sort.ahead w n) g off ds.toArray) os) := by
 cases hv with
 | sl _ _ _ _ _ a cap hb hc h =>
 obtain ⟨g,sz,arr,e,h1,h2,h3,h4,h5,h6⟩ := hh.at dP;obtain ⟨C7,jH⟩ := h g sz h1;obtain rfl := C7 (by omega);have hz := rW Lk
 have yy : zs.length = len := by
  have := congrArg List.length hz;simp at this;omega
 have uq : ∀ j,j < zs.length -> cs[off + j]? = some (.int .i64 (zs[j]!)) := by
  intro j hj;have := congrArg (fun l => l[j]?) hz;simp only [bF,aU,cq] at this;rw [if_pos (by omega)] at this;rw [this];simp [hj]
 have hH : Holds (Value.int .i64) w g off zs.toArray := by
  intro j hj;have hj' : j < zs.length := by simpa using hj
  obtain ⟨u,hu,ru⟩ := h6 _ _ (uq j hj');cases ru;refine ⟨?_,?_⟩
  ·simp [World.cell?,h2,hu]
  ·simp [World.frozen?,h2]
 have bL : g < w.heap.size := (Array.getElem?_eq_some_iff.1 h2).1;refine ⟨g,cap,rfl,hc,yy,hH,bL,fun R m hm => .sl _ _ _ _ _ _ _ hb hm h,fun ds mX n os => ?_⟩;have hg1 : (Sort.ahead w n).heap[g]? = some (.cells arr e (0,0)) := h2;rw [Hp (hg := hg1)];have a1 : fJ [] w [] (Sort.ahead w n) := ⟨rfl,rfl,rfl,Nat.le_add_right _ _,aT _,fun _ _ h => ⟨rfl,h⟩,.refl _⟩;have hh1 := hh.of_same a1;have oX : (putCells (Value.int .i64) off ds.toArray arr).size = arr.size := by simp [putCells]
 have hol : (jv cs off (ds.map (AV.int .i64))).length = cs.length := by simp [jv]; omega
 obtain ⟨hh2,a2⟩ := cG.store (cs' := jv cs off (ds.map (AV.int .i64))) (w' := (Sort.ahead w n).setRow g (putCells (Value.int .i64) off ds.toArray arr)) hh1 h1 hg1 h3 oX rfl h5 (by omega) (fun i c hi => by
  have xW : (putCells (Value.int .i64) off ds.toArray arr)[i]? = (arr[i]?).map fun x => if off <= i /\ i < off + ds.length then Value.int .i64 (ds.toArray[i - off]!) else x := by
   simp [putCells]
  rw [xW];simp only [jv,List.append_assoc] at hi;rw [Q6] at hi;by_cases hi1 : i < off
  ·rw [if_pos (by simp; omega),bF,if_pos hi1] at hi;obtain ⟨u,hu,ru⟩ := h6 i c hi;exact ⟨u,by simp [hu]; omega,(fJ.of_same a1).rep ru⟩
  ·rw [if_neg (by simp; omega),Q6] at hi;have hto : (cs.take off).length = off := by simp; omega
   rw [hto] at hi;by_cases Wa : i - off < ds.length
   ·rw [if_pos (by simpa using Wa),cq] at hi;obtain ⟨u,hu,ru⟩ := h6 i _ (by rw [show i = off + (i - off) by omega]; exact uq (i - off) (by omega));refine ⟨_,by rw [hu,dc,if_pos (by omega)],?_⟩;have : ds[i - off]? = some (ds.toArray[i - off]!) := by simp [Wa]
    rw [this] at hi;simp only [dc,ah] at hi;subst hi;exact .int _ _ _
   ·rw [if_neg (by simpa using Wa),aU] at hi;simp only [List.length_map] at hi;rw [show off + ds.length + (i - off - ds.length) = i by omega] at hi;obtain ⟨u,hu,ru⟩ := h6 i c hi;exact ⟨u,by simp [hu]; omega,(fJ.of_same a1).rep ru⟩)
 have a3 : fJ [] ((Sort.ahead w n).setRow g (putCells (Value.int .i64) off ds.toArray arr)) [] (grow ((Sort.ahead w n).setRow g (putCells (Value.int .i64) off ds.toArray arr)) os) :=
  ⟨rfl,rfl,rfl,aT _,by simp,fun k hk h => ⟨heap_grow_old _ _ hk,h⟩,.refl _⟩
 exact ⟨hh2.of_same a3,((fJ.of_same a1).trans a2).trans (fJ.of_same a3)⟩
theorem sJ.one {X : Nat -> Prop} {φ : dy} {w : World} {x : AV} {vargs : Array Value} (ha : sJ X φ w [x] vargs) : ∃ v,vargs = #[v] /\ bT (Rd X φ w) φ x v := by
 obtain ⟨h1,h2⟩ := ha;have qg : vargs.size = 1 := by simpa using h1.symm
 obtain ⟨v,rfl⟩ : ∃ v,vargs = #[v] := ⟨vargs[0],by apply Array.ext <;> simp [qg]; intro i hi; simp [show i = 0 by omega]⟩;exact ⟨v,rfl,h2 0 x v rfl rfl⟩
theorem Mi {P : Program} {ρ : Ren} (Ly : Lays.n189 P ρ) {args : List AV} {H : Heap} {r : AV} {H' : Heap} (hs : Uy args H = some (r,H')) {X : Nat -> Prop} {φ : dy} {w : World} {vargs : Array Value} (ha : sJ X φ w args vargs) (hh : cG X φ w H) :
  Calls P (ρ.f 189) vargs w (Ret X φ w r H') := by
 have zy : ∀ (p : Option Addr) (cap : Nat),vargs = #[.slice p 0 cap] -> r = .dB [] -> H' = H -> Calls P (ρ.f 189) vargs w (Ret X φ w r H') := by
  intro p cap hv hr hH;subst hv hr hH;refine (Any.slices_Sort_int_none Ly p cap w).mono ?_;rintro e w' ⟨rfl,rfl⟩;exact ⟨_,φ,rfl,.dB _ _ _ rfl (fun i c v hc => by simp at hc),hh,.refl _ _⟩
 unfold Uy at hs;split at hs
 ·obtain ⟨v,rfl,hv⟩ := ha.one;cases hv;simp at hs;exact zy _ _ rfl hs.1.symm hs.2.symm
 ·obtain ⟨v,rfl,hv⟩ := ha.one;simp at hs;cases hv with
  | mI _ _ _ a n cap u hn jH hk hu h =>
    simp at hn;subst hn;exact zy _ _ rfl hs.1.symm hs.2.symm
  | j8 => exact zy _ _ rfl hs.1.symm hs.2.symm
 ·obtain ⟨v,rfl,hv⟩ := ha.one;split at hs
  ·rename_i h0;subst h0;simp at hs;cases hv;exact zy _ _ rfl hs.1.symm hs.2.symm
  ·rename_i h0;split at hs
   ·rename_i cs dP;split at hs
    ·rename_i hlen;split at hs
     ·rename_i zs Lk;simp at hs;obtain ⟨rfl,rfl⟩ := hs;obtain ⟨g,cap,rfl,hc,yy,hH,bL,_,xW⟩ := KL hh hv h0 dP hlen.1 Lk;have dX := Any.slices_Sort_int Ly g _ cap zs w hH bL (by have := hlen.2; unfold lj at this; omega);rw [yy] at dX;refine dX.mono ?_;rintro ee w' ⟨rfl,n,os,rfl⟩;obtain ⟨h1,h2⟩ := xW (sorted zs) (by rw [wS,yy]) n os;exact ⟨_,φ,rfl,.dB _ _ _ rfl (fun i c v hc => by simp at hc),h1,h2⟩
     ·cases hs
    ·cases hs
   ·cases hs
 ·cases hs
def cpt (zs : List Int) : List Int := Lib.compact zs
def zN : List AV -> Heap -> Option (AV × Heap)
 | [.dz],H => some (.dz,H)
 | [.list 1 []],H => some (.list 1 [],H)
 | [.sl 1 b off len],H => if len = 0 then some (.sl 1 b off 0,H) else match aN H b with
   | some cs => if off + len <= cs.length /\ len <= lj then match jr ((cs.drop off).take len) with
     | some zs => if (cpt zs).length <= len then some (.sl 1 b off (cpt zs).length,H.set b (some (jv cs off ((cpt zs ++ aF (len - (cpt zs).length) 0).map (AV.int .i64))))) else none
     | none => none
     else none
   | none => none
 | _,_ => none
theorem Cj {P : Program} {ρ : Ren} (Ly : Lays2.n20 P ρ) {args : List AV} {H : Heap} {r : AV} {H' : Heap} (hs : zN args H = some (r,H')) {X : Nat -> Prop} {φ : dy} {w : World} {vargs : Array Value} (ha : sJ X φ w args vargs) (hh : cG X φ w H) :
  Calls P (ρ.f 20) vargs w (Ret X φ w r H') := by
 have zy : ∀ (p : Option Addr) (cap : Nat),vargs = #[.slice p 0 cap] -> bT (Rd X φ w) φ r (.slice p 0 cap) -> H' = H -> Calls P (ρ.f 20) vargs w (Ret X φ w r H') := by
  intro p cap hv hr hH;subst hv hH;refine (Any.slices_Compact_int_empty Ly p cap w).mono ?_;rintro e w' ⟨rfl,rfl⟩;exact ⟨_,φ,rfl,hr,hh,.refl _ _⟩
 unfold zN at hs;split at hs
 ·obtain ⟨v,rfl,hv⟩ := ha.one;simp at hs;obtain ⟨rfl,rfl⟩ := hs;cases hv;exact zy _ _ rfl (.dz _) rfl
 ·obtain ⟨v,rfl,hv⟩ := ha.one;simp at hs;obtain ⟨rfl,rfl⟩ := hs;have Ul := hv;cases hv with
  | mI _ _ _ a n cap u hn jH hk hu h =>
    simp at hn;subst hn;exact zy _ _ rfl Ul rfl
  | j8 => exact zy _ _ rfl Ul rfl
 ·rename_i H0 b off len;obtain ⟨v,rfl,hv⟩ := ha.one;split at hs
  ·rename_i h0;subst h0;simp at hs;obtain ⟨rfl,rfl⟩ := hs;have Ul := hv;cases hv;exact zy _ _ rfl Ul rfl
  ·rename_i h0;split at hs
   ·rename_i cs dP;split at hs
    ·rename_i hlen;split at hs
     ·rename_i zs Lk;split at hs
      ·rename_i hdl;simp at hs;obtain ⟨rfl,rfl⟩ := hs;obtain ⟨g,cap,rfl,hc,yy,hH,bL,Gd,xW⟩ := KL hh hv h0 dP hlen.1 Lk;have dX := Any.slices_Compact_int Ly g _ cap zs w hH (by have := hlen.2; unfold lj at this; omega) (by omega);rw [yy] at dX;refine dX.mono ?_;rintro ee w' ⟨rfl,n,rfl⟩;obtain ⟨h1,h2⟩ := xW (cpt zs ++ aF (len - (cpt zs).length) 0) (by simp; omega) n #[];rw [grow_empty] at h1 h2;simp only [List.map_append,List.map_replicate] at h1;exact ⟨_,φ,rfl,Gd _ _ (by omega),h1,h2⟩
      ·cases hs
     ·cases hs
    ·cases hs
   ·cases hs
 ·cases hs
end Go.Am
namespace Go.Bm
open Go.Am Go.Sort Go.Shelf Go.Proofs
theorem Y9 (l : List Int) : gY l = sorted l := by
 refine Co ((jT l).trans (List.mergeSort_perm l _).symm) (rV l) ?_;have := List.pairwise_mergeSort (le := fun x y : Int => decide (x <= y)) (fun a b c h1 h2 => by simp at h1 h2 ⊢; omega) (fun a b => by simp; omega) l;exact this.imp fun h => by simpa using h
theorem mK (zs : List Int) : aH (zs.map (AV.int .i64)) = zs.map (AV.int .i64) := by
 induction zs with
 | nil => rfl
 | cons x r ih => simp [aH,AV.cells,ih]
theorem mJ {zs : List Int} {x : AV} (h : x ∈ zs.map (AV.int .i64)) : x.cells.length = 1 /\ ∀ d ∈ x.cells,fz d = true := by
 obtain ⟨z,_,rfl⟩ := List.mem_map.1 h;exact ⟨rfl,fun d hd => by simp [AV.cells] at hd; subst hd; rfl⟩
theorem GV {X : Nat -> Prop} {φ : dy} {w : World} {x : AV} {vargs : Array Value} {v0 : Value} (hs : vargs.size = 1) (h0 : vargs[0]? = some v0) (hr : bT (Rd X φ w) φ x v0) : sJ X φ w [x] vargs := by
 refine ⟨by simp [hs],fun i y u hy hu => ?_⟩;cases i with
 | zero => simp at hy; subst hy; rw [h0] at hu; cases hu; exact hr
 | succ i => simp at hy
theorem AL {R : Addr -> Value -> Prop} {φ : dy} {k : Nat} {y : AV} {v0 : Value} (hy : y = .dz \/ y = .list k []) (hr : bT R φ y v0) : ∃ p cap,v0 = .slice p 0 cap := by
 rcases hy with rfl | rfl
 ·cases hr; exact ⟨_,_,rfl⟩
 ·cases hr with
  | mI _ _ _ a n cap u hn jH hk hu h => simp at hn; subst hn; exact ⟨_,_,rfl⟩
  | j8 => exact ⟨_,_,rfl⟩
theorem CS {vargs : Array Value} {v0 : Value} (hs : ([] : List AV).length + 1 = vargs.size) (h0 : vargs[0]? = some v0) : vargs = #[v0] := by
 apply Vj;intro i;cases i with
 | zero => simpa using h0
 | succ i => simp at hs ⊢; omega
theorem Xq {P : Program} {ρ : wL} (Ly : Lays.n189 P ρ) {k : Nat} {xs es ys : List AV} {res : Option Nat} (hg : Pn k xs es = some (ys,res)) :
  ((ys.length = xs.length /\ (∀ y ∈ ys,y.cells.length = k)) /\ ((∀ y ∈ ys,∀ d ∈ y.cells,fz d = true) /\ ∀ m,res = some m -> m <= xs.length)) /\
 (xs = [] -> ∀ (X : Nat -> Prop) (φ : dy) (w : World) (vargs : Array Value) v0 y,(y = .dz \/ y = .list k []) -> es.length + 1 = vargs.size -> vargs[0]? = some v0 -> bT (Rd X φ w) φ y v0 -> (∀ (i : Nat) (e : AV) (v : Value),es[i]? = some e -> vargs[i + 1]? = some v -> bT (Rd X φ w) [] e v) ->
  Calls P (ρ.f 189) vargs w (fun e w' => ∃ v',e = .returned v' /\ bT (Rd X φ w') φ (match (generalizing := false) res with
   | none => .dB []
   | some _ => y) v' /\ fJ [] w [] w')) /\
 ∀ (X : Nat -> Prop) (φ : dy) (w : World) Ha n rest (vargs : Array Value) v0,cG X φ w Ha -> aN Ha n = some (aH (xs ++ rest)) -> es.length + 1 = vargs.size -> vargs[0]? = some v0 -> bT (Rd X φ w) φ (.sl k n 0 xs.length) v0 -> (∀ (i : Nat) (e : AV) (v : Value),es[i]? = some e -> vargs[i + 1]? = some v -> bT (Rd X φ w) [] e v) ->
  Calls P (ρ.f 189) vargs w (fun e w' => ∃ v' φ',e = .returned v' /\ bT (Rd X φ' w') φ' (match (generalizing := false) res with
   | none => .dB []
   | some m => .sl k n 0 m) v' /\ cG X φ' w' (Ha.set n (some (aH (ys ++ rest)))) /\ fJ φ w φ' w') := by
 unfold Pn at hg;split at hg
 case h_2 => cases hg
 split at hg
 case isFalse => cases hg
 rename_i Ln;cases Lk : jr xs with
 | none => rw [Lk] at hg; cases hg
 | some zs =>
 rw [Lk] at hg;simp only [ah,Prod.mk.injEq] at hg;obtain ⟨rfl,rfl⟩ := hg;have hx := rW Lk;subst hx;refine ⟨⟨⟨by simp [j9],fun y hy => (mJ hy).1⟩,fun y hy => (mJ hy).2,fun m hm => by cases hm⟩,fun hnil X φ w vargs v0 y hy hs h0 hr _ => ?_,fun X φ w Ha n rest vargs v0 hh hb hs h0 hr _ => ?_⟩
 ·obtain ⟨p,cap,rfl⟩ := AL hy hr;obtain rfl := CS hs h0;refine (Any.slices_Sort_int_none Ly p cap w).mono ?_;rintro e w' ⟨rfl,rfl⟩;exact ⟨_,rfl,.dB _ _ _ rfl (fun i c v hc => by simp at hc),.refl _ _⟩
 ·have ha := GV (by simpa using hs.symm) h0 hr;by_cases hz : zs = []
  ·subst hz
   have e : Ha.set n (some (aH ((gY []).map (AV.int .i64) ++ rest))) = Ha := by
    apply List.ext_getElem?;intro j;rw [List.getElem?_set];split
    ·rename_i e; subst e;rw [if_pos (dL hb),pe.1 hb]; rfl
    ·rfl
   rw [e];exact Mi Ly (args := [.sl 1 n 0 0]) (H := Ha) (r := .dB []) (H' := Ha) rfl ha hh
  ·have yy : zs.length ≠ 0 := fun h => hz (List.eq_nil_of_length_eq_zero h);have Qm : aH (zs.map (AV.int .i64) ++ rest) = zs.map (AV.int .i64) ++ aH rest := by rw [gT,mK]
   have e : Uy [.sl 1 n 0 zs.length] Ha = some (.dB [],Ha.set n (some (aH ((gY zs).map (AV.int .i64) ++ rest)))) := by
    unfold Uy;simp only [if_neg yy,hb,Qm];rw [if_pos ⟨by simp,by simpa using Ln⟩];have ht : ((zs.map (AV.int .i64) ++ aH rest).drop 0).take zs.length = zs.map (AV.int .i64) := by simp
    rw [ht,k8];simp only;rw [gT,mK,Y9];unfold jv;simp [wS]
   have hl : (zs.map (AV.int .i64)).length = zs.length := by simp
   rw [hl] at ha;exact Mi Ly e ha hh
end Go.Bm
