/- The library's sort of ints as an oracle of the abstract machine. -/
import Derived.Test.YtmoginoicilobabGreatGrfP
import Derived.Shelf.Sort.Plain
import Derived.Shelf.Slices.In.SortNone
import Derived.Shelf.Slices.CompactI
import Derived.Shelf.Lay
open Array renaming ext_getElem? → UJ
open List renaming getElem?_append → kC, getElem?_drop → aQ, getElem?_map → dQ, getElem?_take → bf
open Nat renaming le_refl → aT
open Option renaming map_some → cX
open Option.some renaming injEq → ah
namespace Go.Am
open Go.Sort Go.Shelf Go.Proofs
def sorted (zs : List Int) : List Int := zs.mergeSort fun x y => decide (x <= y)
def Uf : List AV -> Heap -> Option (AV × Heap)
 | [.dJ],H => some (.dD [],H)
 | [.list 1 []],H => some (.dD [],H)
 | [.sl 1 b off len],H => if len = 0 then some (.dD [],H) else match aJ H b with
   | some cs => if off + len <= cs.length /\ len <= jQ then match mX ((cs.drop off).take len) with
     | some zs => some (.dD [],H.set b (some (iZ cs off ((sorted zs).map (AV.int .i64)))))
     | none => none
     else none
   | none => none
 | _,_ => none
theorem GO {α : Type} [Inhabited α] (enc : α -> Value) (w : World) (g off : Nat) (d : Array α) {arr : Array Value} {e : TypeId} {fr : Nat × Nat} (hg : w.heap[g]? = some (.cells arr e fr)) : putRow enc w g off d = w.setRow g (putCells enc off d arr) := by
 unfold putRow mapBlock World.setRow;congr 1;apply UJ;intro k;simp only [Array.getElem?_modify];by_cases hk : g = k
 ·subst hk;simp [hg,onCells]
 ·simp [hk]
theorem vR (zs : List Int) : (sorted zs).length = zs.length := List.length_mergeSort _
theorem ab3 {X : Nat -> Prop} {φ : dF} {w : World} {H : Heap} {b off len : Nat} {v : Value} {cs : List AV} {zs : List Int} (hh : cJ X φ w H) (hv : bI (Rd X φ w) φ (.sl 1 b off len) v) (h0 : len ≠ 0) (dC : aJ H b = some cs) (hlen : off + len <= cs.length)
  (hzs : mX ((cs.drop off).take len) = some zs) :
  ∃ g cap,v = .slice (some ⟨g,off,none⟩) len cap /\ len <= cap /\ zs.length = len /\ Holds (Value.int .i64) w g off zs.toArray /\ g < w.heap.size /\
   (∀ (R : Addr -> Value -> Prop) (m : Nat),m <= cap -> bI R φ (.sl 1 b off m) (.slice (some ⟨g,off,none⟩) m cap)) /\
   ∀ (ds : List Int),ds.length = len -> ∀ (n : Nat) (os : Array Obj),cJ X φ (grow (putRow (Value.int .i64) (Sort.ahead w n) g off ds.toArray) os) (H.set b (some (iZ cs off (ds.map (AV.int .i64))))) /\ fo φ w φ (grow (putRow (Value.int .i64) (Sort.ahead w n) g off ds.toArray) os) := by
 cases hv with
 | sl _ _ _ _ _ a cap hb hc h =>
 obtain ⟨g,sz,arr,e,h1,h2,h3,h4,h5,h6⟩ := hh.at dC;obtain ⟨Li,fD⟩ := h g sz h1;obtain rfl := Li (by omega);have hz := AB hzs
 have GV : zs.length = len := by
  have := congrArg List.length hz;simp at this;omega
 have s9 : ∀ j,j < zs.length -> cs[off + j]? = some (.int .i64 (zs[j]!)) := by
  intro j hj;have := congrArg (fun l => l[j]?) hz;simp only [bf,aQ,dQ] at this;rw [if_pos (by omega)] at this;rw [this];simp [hj]
 have hH : Holds (Value.int .i64) w g off zs.toArray := by
  intro j hj;have hj' : j < zs.length := by simpa using hj
  obtain ⟨u,hu,ru⟩ := h6 _ _ (s9 j hj');cases ru;refine ⟨?_,?_⟩
  ·simp [World.cell?,h2,hu]
  ·simp [World.frozen?,h2]
 have bO : g < w.heap.size := (Array.getElem?_eq_some_iff.1 h2).1;refine ⟨g,cap,rfl,hc,GV,hH,bO,fun R m hm => .sl _ _ _ _ _ _ _ hb hm h,fun ds kc n os => ?_⟩;have hg1 : (Sort.ahead w n).heap[g]? = some (.cells arr e (0,0)) := h2;rw [GO (hg := hg1)];have a1 : fo [] w [] (Sort.ahead w n) := ⟨rfl,rfl,rfl,Nat.le_add_right _ _,aT _,fun _ _ h => ⟨rfl,h⟩,.refl _⟩;have hh1 := hh.of_same a1;have qO : (putCells (Value.int .i64) off ds.toArray arr).size = arr.size := by simp [putCells]
 have hol : (iZ cs off (ds.map (AV.int .i64))).length = cs.length := by simp [iZ]; omega
 obtain ⟨hh2,a2⟩ := cJ.store (cs' := iZ cs off (ds.map (AV.int .i64))) (w' := (Sort.ahead w n).setRow g (putCells (Value.int .i64) off ds.toArray arr)) hh1 h1 hg1 h3 qO rfl h5 (by omega) (fun i c hi => by
  have xQ : (putCells (Value.int .i64) off ds.toArray arr)[i]? = (arr[i]?).map fun x => if off <= i /\ i < off + ds.length then Value.int .i64 (ds.toArray[i - off]!) else x := by
   simp [putCells]
  rw [xQ];simp only [iZ,List.append_assoc] at hi;rw [kC] at hi;by_cases hi1 : i < off
  ·rw [if_pos (by simp; omega),bf,if_pos hi1] at hi;obtain ⟨u,hu,ru⟩ := h6 i c hi;exact ⟨u,by simp [hu]; omega,(fo.of_same a1).rep ru⟩
  ·rw [if_neg (by simp; omega),kC] at hi;have hto : (cs.take off).length = off := by simp; omega
   rw [hto] at hi;by_cases hi2 : i - off < ds.length
   ·rw [if_pos (by simpa using hi2),dQ] at hi;obtain ⟨u,hu,ru⟩ := h6 i _ (by rw [show i = off + (i - off) by omega]; exact s9 (i - off) (by omega));refine ⟨_,by rw [hu,cX,if_pos (by omega)],?_⟩;have : ds[i - off]? = some (ds.toArray[i - off]!) := by simp [hi2]
    rw [this] at hi;simp only [cX,ah] at hi;subst hi;exact .int _ _ _
   ·rw [if_neg (by simpa using hi2),aQ] at hi;simp only [List.length_map] at hi;rw [show off + ds.length + (i - off - ds.length) = i by omega] at hi;obtain ⟨u,hu,ru⟩ := h6 i c hi;exact ⟨u,by simp [hu]; omega,(fo.of_same a1).rep ru⟩)
 have a3 : fo [] ((Sort.ahead w n).setRow g (putCells (Value.int .i64) off ds.toArray arr)) [] (grow ((Sort.ahead w n).setRow g (putCells (Value.int .i64) off ds.toArray arr)) os) :=
  ⟨rfl,rfl,rfl,aT _,by simp,fun k hk h => ⟨heap_grow_old _ _ hk,h⟩,.refl _⟩
 exact ⟨hh2.of_same a3,((fo.of_same a1).trans a2).trans (fo.of_same a3)⟩
theorem pY.one {X : Nat -> Prop} {φ : dF} {w : World} {x : AV} {vargs : Array Value} (ha : pY X φ w [x] vargs) : ∃ v,vargs = #[v] /\ bI (Rd X φ w) φ x v := by
 obtain ⟨h1,h2⟩ := ha;have kM : vargs.size = 1 := by simpa using h1.symm
 obtain ⟨v,rfl⟩ : ∃ v,vargs = #[v] := ⟨vargs[0],by apply Array.ext <;> simp [kM]; intro i hi; simp [show i = 0 by omega]⟩;exact ⟨v,rfl,h2 0 x v rfl rfl⟩
theorem LH {P : Program} {ρ : Ren} (Ly : Lays.n189 P ρ) {args : List AV} {H : Heap} {r : AV} {H' : Heap} (hs : Uf args H = some (r,H')) {X : Nat -> Prop} {φ : dF} {w : World} {vargs : Array Value} (ha : pY X φ w args vargs) (hh : cJ X φ w H) :
  Calls P (ρ.f 189) vargs w (Ret X φ w r H') := by
 have Tz : ∀ (p : Option Addr) (cap : Nat),vargs = #[.slice p 0 cap] -> r = .dD [] -> H' = H -> Calls P (ρ.f 189) vargs w (Ret X φ w r H') := by
  intro p cap hv hr hH;subst hv hr hH;refine (Any.slices_Sort_int_none Ly p cap w).mono ?_;rintro e w' ⟨rfl,rfl⟩;exact ⟨_,φ,rfl,.dD _ _ _ rfl (fun i c v hc => by simp at hc),hh,.refl _ _⟩
 unfold Uf at hs;split at hs
 ·obtain ⟨v,rfl,hv⟩ := ha.one;cases hv;simp at hs;exact Tz _ _ rfl hs.1.symm hs.2.symm
 ·obtain ⟨v,rfl,hv⟩ := ha.one;simp at hs;cases hv with
  | qC _ _ _ a n cap u hn fD hk hu h =>
    simp at hn;subst hn;exact Tz _ _ rfl hs.1.symm hs.2.symm
  | jC => exact Tz _ _ rfl hs.1.symm hs.2.symm
 ·obtain ⟨v,rfl,hv⟩ := ha.one;split at hs
  ·rename_i h0;subst h0;simp at hs;cases hv;exact Tz _ _ rfl hs.1.symm hs.2.symm
  ·rename_i h0;split at hs
   ·rename_i cs dC;split at hs
    ·rename_i hlen;split at hs
     ·rename_i zs hzs;simp at hs;obtain ⟨rfl,rfl⟩ := hs;obtain ⟨g,cap,rfl,hc,GV,hH,bO,_,xQ⟩ := ab3 hh hv h0 dC hlen.1 hzs;have eU := Any.slices_Sort_int Ly g _ cap zs w hH bO (by have := hlen.2; unfold jQ at this; omega);rw [GV] at eU;refine eU.mono ?_;rintro ee w' ⟨rfl,n,os,rfl⟩;obtain ⟨h1,h2⟩ := xQ (sorted zs) (by rw [vR,GV]) n os;exact ⟨_,φ,rfl,.dD _ _ _ rfl (fun i c v hc => by simp at hc),h1,h2⟩
     ·cases hs
    ·cases hs
   ·cases hs
 ·cases hs
def cpt (zs : List Int) : List Int := Lib.compact zs
def aiC : List AV -> Heap -> Option (AV × Heap)
 | [.dJ],H => some (.dJ,H)
 | [.list 1 []],H => some (.list 1 [],H)
 | [.sl 1 b off len],H => if len = 0 then some (.sl 1 b off 0,H) else match aJ H b with
   | some cs => if off + len <= cs.length /\ len <= jQ then match mX ((cs.drop off).take len) with
     | some zs => if (cpt zs).length <= len then some (.sl 1 b off (cpt zs).length,H.set b (some (iZ cs off ((cpt zs ++ List.replicate (len - (cpt zs).length) 0).map (AV.int .i64))))) else none
     | none => none
     else none
   | none => none
 | _,_ => none
end Go.Am
namespace Go.Bm
open Go.Am Go.Sort Go.Shelf Go.Proofs
theorem aai (l : List Int) : gV l = sorted l := by
 refine Cl ((lW l).trans (List.mergeSort_perm l _).symm) (vq l) ?_;have := List.pairwise_mergeSort (le := fun x y : Int => decide (x <= y)) (fun a b c h1 h2 => by simp at h1 h2 ⊢; omega) (fun a b => by simp; omega) l;exact this.imp fun h => by simpa using h
theorem Ip (zs : List Int) : aA (zs.map (AV.int .i64)) = zs.map (AV.int .i64) := by
 induction zs with
 | nil => rfl
 | cons x r ih => simp [aA,AV.cells,ih]
theorem Fj {zs : List Int} {x : AV} (h : x ∈ zs.map (AV.int .i64)) : x.cells.length = 1 /\ ∀ d ∈ x.cells,fz d = true := by
 obtain ⟨z,_,rfl⟩ := List.mem_map.1 h;exact ⟨rfl,fun d hd => by simp [AV.cells] at hd; subst hd; rfl⟩
theorem aa6 {X : Nat -> Prop} {φ : dF} {w : World} {x : AV} {vargs : Array Value} {v0 : Value} (hs : vargs.size = 1) (h0 : vargs[0]? = some v0) (hr : bI (Rd X φ w) φ x v0) : pY X φ w [x] vargs := by
 refine ⟨by simp [hs],fun i y u hy hu => ?_⟩;cases i with
 | zero => simp at hy; subst hy; rw [h0] at hu; cases hu; exact hr
 | succ i => simp at hy
theorem Vp {R : Addr -> Value -> Prop} {φ : dF} {k : Nat} {y : AV} {v0 : Value} (hy : y = .dJ \/ y = .list k []) (hr : bI R φ y v0) : ∃ p cap,v0 = .slice p 0 cap := by
 rcases hy with rfl | rfl
 ·cases hr; exact ⟨_,_,rfl⟩
 ·cases hr with
  | qC _ _ _ a n cap u hn fD hk hu h => simp at hn; subst hn; exact ⟨_,_,rfl⟩
  | jC => exact ⟨_,_,rfl⟩
theorem ab5 {vargs : Array Value} {v0 : Value} (hs : ([] : List AV).length + 1 = vargs.size) (h0 : vargs[0]? = some v0) : vargs = #[v0] := by
 apply UJ;intro i;cases i with
 | zero => simpa using h0
 | succ i => simp at hs ⊢; omega
theorem Xl {P : Program} {ρ : Go.Shelf.Ren} (Ly : Lays.n189 P ρ) {k : Nat} {xs es ys : List AV} {res : Option Nat} (hg : UZ k xs es = some (ys,res)) :
  ((ys.length = xs.length /\ (∀ y ∈ ys,y.cells.length = k)) /\ ((∀ y ∈ ys,∀ d ∈ y.cells,fz d = true) /\ ∀ m,res = some m -> m <= xs.length)) /\
 (xs = [] -> ∀ (X : Nat -> Prop) (φ : dF) (w : World) (vargs : Array Value) v0 y,(y = .dJ \/ y = .list k []) -> es.length + 1 = vargs.size -> vargs[0]? = some v0 -> bI (Rd X φ w) φ y v0 -> (∀ (i : Nat) (e : AV) (v : Value),es[i]? = some e -> vargs[i + 1]? = some v -> bI (Rd X φ w) [] e v) ->
  Calls P (ρ.f 189) vargs w (fun e w' => ∃ v',e = .returned v' /\ bI (Rd X φ w') φ (match (generalizing := false) res with
   | none => .dD []
   | some _ => y) v' /\ fo [] w [] w')) /\
 ∀ (X : Nat -> Prop) (φ : dF) (w : World) Ha n rest (vargs : Array Value) v0,cJ X φ w Ha -> aJ Ha n = some (aA (xs ++ rest)) -> es.length + 1 = vargs.size -> vargs[0]? = some v0 -> bI (Rd X φ w) φ (.sl k n 0 xs.length) v0 -> (∀ (i : Nat) (e : AV) (v : Value),es[i]? = some e -> vargs[i + 1]? = some v -> bI (Rd X φ w) [] e v) ->
  Calls P (ρ.f 189) vargs w (fun e w' => ∃ v' φ',e = .returned v' /\ bI (Rd X φ' w') φ' (match (generalizing := false) res with
   | none => .dD []
   | some m => .sl k n 0 m) v' /\ cJ X φ' w' (Ha.set n (some (aA (ys ++ rest)))) /\ fo φ w φ' w') := by
 unfold UZ at hg;split at hg
 case h_2 => cases hg
 split at hg
 case isFalse => cases hg
 rename_i hlim;cases hzs : mX xs with
 | none => rw [hzs] at hg; cases hg
 | some zs =>
 rw [hzs] at hg;simp only [ah,Prod.mk.injEq] at hg;obtain ⟨rfl,rfl⟩ := hg;have hx := AB hzs;subst hx;refine ⟨⟨⟨by simp [rB],fun y hy => (Fj hy).1⟩,fun y hy => (Fj hy).2,fun m hm => by cases hm⟩,fun QT X φ w vargs v0 y hy hs h0 hr _ => ?_,fun X φ w Ha n rest vargs v0 hh hb hs h0 hr _ => ?_⟩
 ·obtain ⟨p,cap,rfl⟩ := Vp hy hr;obtain rfl := ab5 hs h0;refine (Any.slices_Sort_int_none Ly p cap w).mono ?_;rintro e w' ⟨rfl,rfl⟩;exact ⟨_,rfl,.dD _ _ _ rfl (fun i c v hc => by simp at hc),.refl _ _⟩
 ·have ha := aa6 (by simpa using hs.symm) h0 hr;by_cases hz : zs = []
  ·subst hz
   have e : Ha.set n (some (aA ((gV []).map (AV.int .i64) ++ rest))) = Ha := by
    apply List.ext_getElem?;intro j;rw [List.getElem?_set];split
    ·rename_i e; subst e;rw [if_pos (eL hb),rL.1 hb]; rfl
    ·rfl
   rw [e];exact LH Ly (args := [.sl 1 n 0 0]) (H := Ha) (r := .dD []) (H' := Ha) rfl ha hh
  ·have GV : zs.length ≠ 0 := fun h => hz (List.eq_nil_of_length_eq_zero h);have hfl : aA (zs.map (AV.int .i64) ++ rest) = zs.map (AV.int .i64) ++ aA rest := by rw [pW,Ip]
   have e : Uf [.sl 1 n 0 zs.length] Ha = some (.dD [],Ha.set n (some (aA ((gV zs).map (AV.int .i64) ++ rest)))) := by
    unfold Uf;simp only [if_neg GV,hb,hfl];rw [if_pos ⟨by simp,by simpa using hlim⟩];have ht : ((zs.map (AV.int .i64) ++ aA rest).drop 0).take zs.length = zs.map (AV.int .i64) := by simp
    rw [ht,B3];simp only;rw [pW,Ip,aai];unfold iZ;simp [vR]
   have hl : (zs.map (AV.int .i64)).length = zs.length := by simp
   rw [hl] at ha;exact LH Ly e ha hh
end Go.Bm
