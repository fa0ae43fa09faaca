/- The library's sort of ints as an oracle of the abstract machine. -/
import Derived.Test.YtmoginoicilobaaGreatDoorGrfP
import Derived.Shelf.Sort.Plain
import Derived.Shelf.Slices.In.SortNone
import Derived.Shelf.Slices.CompactI
import Derived.Shelf.Lay
open Array renaming ext_getElem? → TX
open List renaming getElem?_append → Qv, getElem?_drop → aS, getElem?_map → cU, getElem?_take → bB
open Nat renaming le_refl → ba
open Option renaming map_some → cT
open Option.some renaming injEq → ai
namespace Go.Am
open Go.Sort Go.Shelf Go.Proofs
def sorted (zs : List Int) : List Int := zs.mergeSort fun x y => decide (x <= y)
def Ty : List AV -> Heap -> Option (AV × Heap)
 | [.dn],H => some (.dp [],H)
 | [.list 1 []],H => some (.dp [],H)
 | [.sl 1 b off len],H => if len = 0 then some (.dp [],H) else match aJ H b with
   | some cs => if off + len <= cs.length /\ len <= kR then match oI ((cs.drop off).take len) with
     | some zs => some (.dp [],H.set b (some (jK cs off ((sorted zs).map (AV.int .i64)))))
     | none => none
     else none
   | none => none
 | _,_ => none
theorem Hc {α : Type} [Inhabited α] (enc : α -> Value) (w : World) (g off : Nat) (d : Array α) {arr : Array Value} {e : TypeId} {fr : Nat × Nat} (hg : w.heap[g]? = some (.cells arr e fr)) : putRow enc w g off d = w.setRow g (putCells enc off d arr) := by
 unfold putRow mapBlock World.setRow;congr 1;apply TX;intro k;simp only [Array.getElem?_modify];by_cases hk : g = k
 ·subst hk;simp [hg,onCells]
 ·simp [hk]
theorem wY (zs : List Int) : (sorted zs).length = zs.length := List.length_mergeSort _
theorem aaY {X : Nat -> Prop} {φ : dq} {w : World} {H : Heap} {b off len : Nat} {v : Value} {cs : List AV} {zs : List Int} (hh : b8 X φ w H) (hv : bR (Rd X φ w) φ (.sl 1 b off len) v) (h0 : len ≠ 0) (dx : aJ H b = some cs) (hlen : off + len <= cs.length)
  (hzs : oI ((cs.drop off).take len) = some zs) :
  ∃ g cap,v = .slice (some ⟨g,off,none⟩) len cap /\ len <= cap /\ zs.length = len /\ Holds (Value.int .i64) w g off zs.toArray /\ g < w.heap.size /\
   (∀ (R : Addr -> Value -> Prop) (m : Nat),m <= cap -> bR R φ (.sl 1 b off m) (.slice (some ⟨g,off,none⟩) m cap)) /\
   ∀ (ds : List Int),ds.length = len -> ∀ (n : Nat) (os : Array Obj),b8 X φ (grow (putRow (Value.int .i64) (Sort.ahead w n) g off ds.toArray) os) (H.set b (some (jK cs off (ds.map (AV.int .i64))))) /\ eZ φ w φ (grow (putRow (Value.int .i64) (Sort.ahead w n) g off ds.toArray) os) := by
 cases hv with
 | sl _ _ _ _ _ a cap hb hc h =>
 obtain ⟨g,sz,arr,e,h1,h2,h3,h4,h5,h6⟩ := hh.at dx;obtain ⟨VK,jW⟩ := h g sz h1;obtain rfl := VK (by omega);have hz := Bh hzs
 have Hf : zs.length = len := by
  have := congrArg List.length hz;simp at this;omega
 have uc : ∀ j,j < zs.length -> cs[off + j]? = some (.int .i64 (zs[j]!)) := by
  intro j hj;have := congrArg (fun l => l[j]?) hz;simp only [bB,aS,cU] at this;rw [if_pos (by omega)] at this;rw [this];simp [hj]
 have hH : Holds (Value.int .i64) w g off zs.toArray := by
  intro j hj;have hj' : j < zs.length := by simpa using hj
  obtain ⟨u,hu,ru⟩ := h6 _ _ (uc j hj');cases ru;refine ⟨?_,?_⟩
  ·simp [World.cell?,h2,hu]
  ·simp [World.frozen?,h2]
 have bz : g < w.heap.size := (Array.getElem?_eq_some_iff.1 h2).1;refine ⟨g,cap,rfl,hc,Hf,hH,bz,fun R m hm => .sl _ _ _ _ _ _ _ hb hm h,fun ds nE n os => ?_⟩;have hg1 : (Sort.ahead w n).heap[g]? = some (.cells arr e (0,0)) := h2;rw [Hc (hg := hg1)];have a1 : eZ [] w [] (Sort.ahead w n) := ⟨rfl,rfl,rfl,Nat.le_add_right _ _,ba _,fun _ _ h => ⟨rfl,h⟩,.refl _⟩;have hh1 := hh.of_same a1;have sd : (putCells (Value.int .i64) off ds.toArray arr).size = arr.size := by simp [putCells]
 have hol : (jK cs off (ds.map (AV.int .i64))).length = cs.length := by simp [jK]; omega
 obtain ⟨hh2,a2⟩ := b8.store (cs' := jK cs off (ds.map (AV.int .i64))) (w' := (Sort.ahead w n).setRow g (putCells (Value.int .i64) off ds.toArray arr)) hh1 h1 hg1 h3 sd rfl h5 (by omega) (fun i c hi => by
  have FV : (putCells (Value.int .i64) off ds.toArray arr)[i]? = (arr[i]?).map fun x => if off <= i /\ i < off + ds.length then Value.int .i64 (ds.toArray[i - off]!) else x := by
   simp [putCells]
  rw [FV];simp only [jK,List.append_assoc] at hi;rw [Qv] at hi;by_cases hi1 : i < off
  ·rw [if_pos (by simp; omega),bB,if_pos hi1] at hi;obtain ⟨u,hu,ru⟩ := h6 i c hi;exact ⟨u,by simp [hu]; omega,(eZ.of_same a1).rep ru⟩
  ·rw [if_neg (by simp; omega),Qv] at hi;have hto : (cs.take off).length = off := by simp; omega
   rw [hto] at hi;by_cases hi2 : i - off < ds.length
   ·rw [if_pos (by simpa using hi2),cU] at hi;obtain ⟨u,hu,ru⟩ := h6 i _ (by rw [show i = off + (i - off) by omega]; exact uc (i - off) (by omega));refine ⟨_,by rw [hu,cT,if_pos (by omega)],?_⟩;have : ds[i - off]? = some (ds.toArray[i - off]!) := by simp [hi2]
    rw [this] at hi;simp only [cT,ai] at hi;subst hi;exact .int _ _ _
   ·rw [if_neg (by simpa using hi2),aS] at hi;simp only [List.length_map] at hi;rw [show off + ds.length + (i - off - ds.length) = i by omega] at hi;obtain ⟨u,hu,ru⟩ := h6 i c hi;exact ⟨u,by simp [hu]; omega,(eZ.of_same a1).rep ru⟩)
 have a3 : eZ [] ((Sort.ahead w n).setRow g (putCells (Value.int .i64) off ds.toArray arr)) [] (grow ((Sort.ahead w n).setRow g (putCells (Value.int .i64) off ds.toArray arr)) os) :=
  ⟨rfl,rfl,rfl,ba _,by simp,fun k hk h => ⟨heap_grow_old _ _ hk,h⟩,.refl _⟩
 exact ⟨hh2.of_same a3,((eZ.of_same a1).trans a2).trans (eZ.of_same a3)⟩
theorem pY.one {X : Nat -> Prop} {φ : dq} {w : World} {x : AV} {vargs : Array Value} (ha : pY X φ w [x] vargs) : ∃ v,vargs = #[v] /\ bR (Rd X φ w) φ x v := by
 obtain ⟨h1,h2⟩ := ha;have oS : vargs.size = 1 := by simpa using h1.symm
 obtain ⟨v,rfl⟩ : ∃ v,vargs = #[v] := ⟨vargs[0],by apply Array.ext <;> simp [oS]; intro i hi; simp [show i = 0 by omega]⟩;exact ⟨v,rfl,h2 0 x v rfl rfl⟩
theorem LL {P : Program} {ρ : Ren} (Ly : Lays.n189 P ρ) {args : List AV} {H : Heap} {r : AV} {H' : Heap} (hs : Ty args H = some (r,H')) {X : Nat -> Prop} {φ : dq} {w : World} {vargs : Array Value} (ha : pY X φ w args vargs) (hh : b8 X φ w H) :
  Calls P (ρ.f 189) vargs w (Ret X φ w r H') := by
 have SU : ∀ (p : Option Addr) (cap : Nat),vargs = #[.slice p 0 cap] -> r = .dp [] -> H' = H -> Calls P (ρ.f 189) vargs w (Ret X φ w r H') := by
  intro p cap hv hr hH;subst hv hr hH;refine (Any.slices_Sort_int_none Ly p cap w).mono ?_;rintro e w' ⟨rfl,rfl⟩;exact ⟨_,φ,rfl,.dp _ _ _ rfl (fun i c v hc => by simp at hc),hh,.refl _ _⟩
 unfold Ty at hs;split at hs
 ·obtain ⟨v,rfl,hv⟩ := ha.one;cases hv;simp at hs;exact SU _ _ rfl hs.1.symm hs.2.symm
 ·obtain ⟨v,rfl,hv⟩ := ha.one;simp at hs;cases hv with
  | ub _ _ _ a n cap u hn jW hk hu h =>
    simp at hn;subst hn;exact SU _ _ rfl hs.1.symm hs.2.symm
  | kL => exact SU _ _ rfl hs.1.symm hs.2.symm
 ·obtain ⟨v,rfl,hv⟩ := ha.one;split at hs
  ·rename_i h0;subst h0;simp at hs;cases hv;exact SU _ _ rfl hs.1.symm hs.2.symm
  ·rename_i h0;split at hs
   ·rename_i cs dx;split at hs
    ·rename_i hlen;split at hs
     ·rename_i zs hzs;simp at hs;obtain ⟨rfl,rfl⟩ := hs;obtain ⟨g,cap,rfl,hc,Hf,hH,bz,_,FV⟩ := aaY hh hv h0 dx hlen.1 hzs;have ed := Any.slices_Sort_int Ly g _ cap zs w hH bz (by have := hlen.2; unfold kR at this; omega);rw [Hf] at ed;refine ed.mono ?_;rintro ee w' ⟨rfl,n,os,rfl⟩;obtain ⟨h1,h2⟩ := FV (sorted zs) (by rw [wY,Hf]) n os;exact ⟨_,φ,rfl,.dp _ _ _ rfl (fun i c v hc => by simp at hc),h1,h2⟩
     ·cases hs
    ·cases hs
   ·cases hs
 ·cases hs
def cpt (zs : List Int) : List Int := Lib.compact zs
def agS : List AV -> Heap -> Option (AV × Heap)
 | [.dn],H => some (.dn,H)
 | [.list 1 []],H => some (.list 1 [],H)
 | [.sl 1 b off len],H => if len = 0 then some (.sl 1 b off 0,H) else match aJ H b with
   | some cs => if off + len <= cs.length /\ len <= kR then match oI ((cs.drop off).take len) with
     | some zs => if (cpt zs).length <= len then some (.sl 1 b off (cpt zs).length,H.set b (some (jK cs off ((cpt zs ++ List.replicate (len - (cpt zs).length) 0).map (AV.int .i64))))) else none
     | none => none
     else none
   | none => none
 | _,_ => none
end Go.Am
namespace Go.Bm
open Go.Am Go.Sort Go.Shelf Go.Proofs
theorem YF (l : List Int) : fi l = sorted l := by
 refine CU ((kW l).trans (List.mergeSort_perm l _).symm) (rR l) ?_;have := List.pairwise_mergeSort (le := fun x y : Int => decide (x <= y)) (fun a b c h1 h2 => by simp at h1 h2 ⊢; omega) (fun a b => by simp; omega) l;exact this.imp fun h => by simpa using h
theorem I7 (zs : List Int) : aG (zs.map (AV.int .i64)) = zs.map (AV.int .i64) := by
 induction zs with
 | nil => rfl
 | cons x r ih => simp [aG,AV.cells,ih]
theorem FT {zs : List Int} {x : AV} (h : x ∈ zs.map (AV.int .i64)) : x.cells.length = 1 /\ ∀ d ∈ x.cells,fz d = true := by
 obtain ⟨z,_,rfl⟩ := List.mem_map.1 h;exact ⟨rfl,fun d hd => by simp [AV.cells] at hd; subst hd; rfl⟩
theorem Z8 {X : Nat -> Prop} {φ : dq} {w : World} {x : AV} {vargs : Array Value} {v0 : Value} (hs : vargs.size = 1) (h0 : vargs[0]? = some v0) (hr : bR (Rd X φ w) φ x v0) : pY X φ w [x] vargs := by
 refine ⟨by simp [hs],fun i y u hy hu => ?_⟩;cases i with
 | zero => simp at hy; subst hy; rw [h0] at hu; cases hu; exact hr
 | succ i => simp at hy
theorem Uz {R : Addr -> Value -> Prop} {φ : dq} {k : Nat} {y : AV} {v0 : Value} (hy : y = .dn \/ y = .list k []) (hr : bR R φ y v0) : ∃ p cap,v0 = .slice p 0 cap := by
 rcases hy with rfl | rfl
 ·cases hr; exact ⟨_,_,rfl⟩
 ·cases hr with
  | ub _ _ _ a n cap u hn jW hk hu h => simp at hn; subst hn; exact ⟨_,_,rfl⟩
  | kL => exact ⟨_,_,rfl⟩
theorem aaZ {vargs : Array Value} {v0 : Value} (hs : ([] : List AV).length + 1 = vargs.size) (h0 : vargs[0]? = some v0) : vargs = #[v0] := by
 apply TX;intro i;cases i with
 | zero => simpa using h0
 | succ i => simp at hs ⊢; omega
theorem We {P : Program} {ρ : Go.Shelf.Ren} (Ly : Lays.n189 P ρ) {k : Nat} {xs es ys : List AV} {res : Option Nat} (hg : Ud k xs es = some (ys,res)) :
  ((ys.length = xs.length /\ (∀ y ∈ ys,y.cells.length = k)) /\ ((∀ y ∈ ys,∀ d ∈ y.cells,fz d = true) /\ ∀ m,res = some m -> m <= xs.length)) /\
 (xs = [] -> ∀ (X : Nat -> Prop) (φ : dq) (w : World) (vargs : Array Value) v0 y,(y = .dn \/ y = .list k []) -> es.length + 1 = vargs.size -> vargs[0]? = some v0 -> bR (Rd X φ w) φ y v0 -> (∀ (i : Nat) (e : AV) (v : Value),es[i]? = some e -> vargs[i + 1]? = some v -> bR (Rd X φ w) [] e v) ->
  Calls P (ρ.f 189) vargs w (fun e w' => ∃ v',e = .returned v' /\ bR (Rd X φ w') φ (match (generalizing := false) res with
   | none => .dp []
   | some _ => y) v' /\ eZ [] w [] w')) /\
 ∀ (X : Nat -> Prop) (φ : dq) (w : World) Ha n rest (vargs : Array Value) v0,b8 X φ w Ha -> aJ Ha n = some (aG (xs ++ rest)) -> es.length + 1 = vargs.size -> vargs[0]? = some v0 -> bR (Rd X φ w) φ (.sl k n 0 xs.length) v0 -> (∀ (i : Nat) (e : AV) (v : Value),es[i]? = some e -> vargs[i + 1]? = some v -> bR (Rd X φ w) [] e v) ->
  Calls P (ρ.f 189) vargs w (fun e w' => ∃ v' φ',e = .returned v' /\ bR (Rd X φ' w') φ' (match (generalizing := false) res with
   | none => .dp []
   | some m => .sl k n 0 m) v' /\ b8 X φ' w' (Ha.set n (some (aG (ys ++ rest)))) /\ eZ φ w φ' w') := by
 unfold Ud at hg;split at hg
 case h_2 => cases hg
 split at hg
 case isFalse => cases hg
 rename_i hlim;cases hzs : oI xs with
 | none => rw [hzs] at hg; cases hg
 | some zs =>
 rw [hzs] at hg;simp only [ai,Prod.mk.injEq] at hg;obtain ⟨rfl,rfl⟩ := hg;have hx := Bh hzs;subst hx;refine ⟨⟨⟨by simp [pc],fun y hy => (FT hy).1⟩,fun y hy => (FT hy).2,fun m hm => by cases hm⟩,fun hnil X φ w vargs v0 y hy hs h0 hr _ => ?_,fun X φ w Ha n rest vargs v0 hh hb hs h0 hr _ => ?_⟩
 ·obtain ⟨p,cap,rfl⟩ := Uz hy hr;obtain rfl := aaZ hs h0;refine (Any.slices_Sort_int_none Ly p cap w).mono ?_;rintro e w' ⟨rfl,rfl⟩;exact ⟨_,rfl,.dp _ _ _ rfl (fun i c v hc => by simp at hc),.refl _ _⟩
 ·have ha := Z8 (by simpa using hs.symm) h0 hr;by_cases hz : zs = []
  ·subst hz
   have e : Ha.set n (some (aG ((fi []).map (AV.int .i64) ++ rest))) = Ha := by
    apply List.ext_getElem?;intro j;rw [List.getElem?_set];split
    ·rename_i e; subst e;rw [if_pos (dY hb),sX.1 hb]; rfl
    ·rfl
   rw [e];exact LL Ly (args := [.sl 1 n 0 0]) (H := Ha) (r := .dp []) (H' := Ha) rfl ha hh
  ·have Hf : zs.length ≠ 0 := fun h => hz (List.eq_nil_of_length_eq_zero h);have hfl : aG (zs.map (AV.int .i64) ++ rest) = zs.map (AV.int .i64) ++ aG rest := by rw [qV,I7]
   have e : Ty [.sl 1 n 0 zs.length] Ha = some (.dp [],Ha.set n (some (aG ((fi zs).map (AV.int .i64) ++ rest)))) := by
    unfold Ty;simp only [if_neg Hf,hb,hfl];rw [if_pos ⟨by simp,by simpa using hlim⟩];have ht : ((zs.map (AV.int .i64) ++ aG rest).drop 0).take zs.length = zs.map (AV.int .i64) := by simp
    rw [ht,CD];simp only;rw [qV,I7,YF];unfold jK;simp [wY]
   have hl : (zs.map (AV.int .i64)).length = zs.length := by simp
   rw [hl] at ha;exact LL Ly e ha hh
end Go.Bm
