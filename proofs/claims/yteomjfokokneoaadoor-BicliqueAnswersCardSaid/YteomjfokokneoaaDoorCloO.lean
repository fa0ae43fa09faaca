/- The library's sort of ints as an oracle of the abstract machine. -/
import Derived.Test.YteomjfokokneoaaDoorGrfP
import Derived.Shelf.Sort.Plain
import Derived.Shelf.Slices.In.SortNone
import Derived.Shelf.Slices.CompactI
import Derived.Shelf.Lay
import Derived.Test.YteomjfokokneoaaDoorMe
import Derived.Test.YteomjfokokneoaaDoorBmP
import Derived.Shelf.Spec.SlicesInsertGrow
open Array renaming ext_getElem? → TE, getElem?_eq_some_iff → dx
open Go.Proofs.Tryd renaming prog → aq
open Go.Shelf renaming Ren → w6
open List renaming eq_nil_of_length_eq_zero → eI, ext_getElem? → cY, getElem?_append → Qo, getElem?_append_left → av, getElem?_drop → aV, getElem?_map → df, getElem?_set → bj, getElem?_take → bF, replicate → cK
open Nat renaming le_refl → aS
open Option renaming map_some → cJ
open Option.some renaming inj → dm, injEq → aj
open Prod.mk renaming injEq → aF
namespace Go.Am
open Go.Sort Go.Shelf Go.Proofs
def sorted (zs : List Int) : List Int := zs.mergeSort fun x y => decide (x <= y)
def SX : List AV -> Heap -> Option (AV × Heap)
 | [.dc],H => some (.dW [],H)
 | [.list 1 []],H => some (.dW [],H)
 | [.sl 1 b off len],H => if len = 0 then some (.dW [],H) else match aH H b with
   | some cs => if off + len <= cs.length /\ len <= lz then match ke ((cs.drop off).take len) with
     | some zs => some (.dW [],H.set b (some (jf cs off ((sorted zs).map (AV.int .i64)))))
     | none => none
     else none
   | none => none
 | _,_ => none
theorem GN {α : Type} [Inhabited α] (enc : α -> Value) (w : World) (g off : Nat) (d : Array α) {arr : Array Value} {e : TypeId} {fr : Nat × Nat} (hg : w.heap[g]? = some (.cells arr e fr)) : putRow enc w g off d = w.setRow g (putCells enc off d arr) := by
 unfold putRow mapBlock World.setRow;congr 1;apply TE;intro k;simp only [Array.getElem?_modify];by_cases hk : g = k
 ·subst hk;simp [hg,onCells]
 ·simp [hk]
theorem wo (zs : List Int) : (sorted zs).length = zs.length := List.length_mergeSort _
theorem R0 {X : Nat -> Prop} {φ : de} {w : World} {H : Heap} {b off len : Nat} {v : Value} {cs : List AV} {zs : List Int} (hh : b6 X φ w H) (hv : bN (Rd X φ w) φ (.sl 1 b off len) v) (h0 : len ≠ 0) (dv : aH H b = some cs) (hlen : off + len <= cs.length)
  (UD : ke ((cs.drop off).take len) = some zs) :
  ∃ g cap,v = .slice (some ⟨g,off,none⟩) len cap /\ len <= cap /\ zs.length = len /\ Holds (Value.int .i64) w g off zs.toArray /\ g < w.heap.size /\
   (∀ (R : Addr -> Value -> Prop) (m : Nat),m <= cap -> bN R φ (.sl 1 b off m) (.slice (some ⟨g,off,none⟩) m cap)) /\
   ∀ (ds : List Int),ds.length = len -> ∀ (n : Nat) (os : Array Obj),b6 X φ (grow (putRow (Value.int .i64) (Sort.ahead w n) g off ds.toArray) os) (H.set b (some (jf cs off (ds.map (AV.int .i64))))) /\ fB φ w φ (grow (putRow (Value.int .i64) (Sort.ahead w n) g off ds.toArray) os) := by
 cases hv with
 | sl _ _ _ _ _ a cap hb hc h =>
 obtain ⟨g,sz,arr,e,h1,h2,h3,h4,h5,h6⟩ := hh.at dv;obtain ⟨C4,iZ⟩ := h g sz h1;obtain rfl := C4 (by omega);have hz := vP UD
 have Cv : zs.length = len := by
  have := congrArg List.length hz;simp at this;omega
 have ua : ∀ j,j < zs.length -> cs[off + j]? = some (.int .i64 (zs[j]!)) := by
  intro j hj;have := congrArg (fun l => l[j]?) hz;simp only [bF,aV,df] at this;rw [if_pos (by omega)] at this;rw [this];simp [hj]
 have hH : Holds (Value.int .i64) w g off zs.toArray := by
  intro j hj;have hj' : j < zs.length := by simpa using hj
  obtain ⟨u,hu,ru⟩ := h6 _ _ (ua j hj');cases ru;refine ⟨?_,?_⟩
  ·simp [World.cell?,h2,hu]
  ·simp [World.frozen?,h2]
 have bA : g < w.heap.size := (dx.1 h2).1;refine ⟨g,cap,rfl,hc,Cv,hH,bA,fun R m hm => .sl _ _ _ _ _ _ _ hb hm h,fun ds mY n os => ?_⟩;have hg1 : (Sort.ahead w n).heap[g]? = some (.cells arr e (0,0)) := h2;rw [GN (hg := hg1)];have a1 : fB [] w [] (Sort.ahead w n) := ⟨rfl,rfl,rfl,Nat.le_add_right _ _,aS _,fun _ _ h => ⟨rfl,h⟩,.refl _⟩;have hh1 := hh.of_same a1;have pR : (putCells (Value.int .i64) off ds.toArray arr).size = arr.size := by simp [putCells]
 have hol : (jf cs off (ds.map (AV.int .i64))).length = cs.length := by simp [jf]; omega
 obtain ⟨hh2,a2⟩ := b6.store (cs' := jf cs off (ds.map (AV.int .i64))) (w' := (Sort.ahead w n).setRow g (putCells (Value.int .i64) off ds.toArray arr)) hh1 h1 hg1 h3 pR rfl h5 (by omega) (fun i c hi => by
  have Bd : (putCells (Value.int .i64) off ds.toArray arr)[i]? = (arr[i]?).map fun x => if off <= i /\ i < off + ds.length then Value.int .i64 (ds.toArray[i - off]!) else x := by
   simp [putCells]
  rw [Bd];simp only [jf,List.append_assoc] at hi;rw [Qo] at hi;by_cases hi1 : i < off
  ·rw [if_pos (by simp; omega),bF,if_pos hi1] at hi;obtain ⟨u,hu,ru⟩ := h6 i c hi;exact ⟨u,by simp [hu]; omega,(fB.of_same a1).rep ru⟩
  ·rw [if_neg (by simp; omega),Qo] at hi;have hto : (cs.take off).length = off := by simp; omega
   rw [hto] at hi;by_cases hi2 : i - off < ds.length
   ·rw [if_pos (by simpa using hi2),df] at hi;obtain ⟨u,hu,ru⟩ := h6 i _ (by rw [show i = off + (i - off) by omega]; exact ua (i - off) (by omega));refine ⟨_,by rw [hu,cJ,if_pos (by omega)],?_⟩;have : ds[i - off]? = some (ds.toArray[i - off]!) := by simp [hi2]
    rw [this] at hi;simp only [cJ,aj] at hi;subst hi;exact .int _ _ _
   ·rw [if_neg (by simpa using hi2),aV] at hi;simp only [List.length_map] at hi;rw [show off + ds.length + (i - off - ds.length) = i by omega] at hi;obtain ⟨u,hu,ru⟩ := h6 i c hi;exact ⟨u,by simp [hu]; omega,(fB.of_same a1).rep ru⟩)
 have a3 : fB [] ((Sort.ahead w n).setRow g (putCells (Value.int .i64) off ds.toArray arr)) [] (grow ((Sort.ahead w n).setRow g (putCells (Value.int .i64) off ds.toArray arr)) os) :=
  ⟨rfl,rfl,rfl,aS _,by simp,fun k hk h => ⟨heap_grow_old _ _ hk,h⟩,.refl _⟩
 exact ⟨hh2.of_same a3,((fB.of_same a1).trans a2).trans (fB.of_same a3)⟩
theorem pM.one {X : Nat -> Prop} {φ : de} {w : World} {x : AV} {vargs : Array Value} (ha : pM X φ w [x] vargs) : ∃ v,vargs = #[v] /\ bN (Rd X φ w) φ x v := by
 obtain ⟨h1,h2⟩ := ha;have nk : vargs.size = 1 := by simpa using h1.symm
 obtain ⟨v,rfl⟩ : ∃ v,vargs = #[v] := ⟨vargs[0],by apply Array.ext <;> simp [nk]; intro i hi; simp [show i = 0 by omega]⟩;exact ⟨v,rfl,h2 0 x v rfl rfl⟩
theorem KE {P : Program} {ρ : Ren} (Ly : Lays.n189 P ρ) {args : List AV} {H : Heap} {r : AV} {H' : Heap} (hs : SX args H = some (r,H')) {X : Nat -> Prop} {φ : de} {w : World} {vargs : Array Value} (ha : pM X φ w args vargs) (hh : b6 X φ w H) :
  Calls P (ρ.f 189) vargs w (Ret X φ w r H') := by
 have zB : ∀ (p : Option Addr) (cap : Nat),vargs = #[.slice p 0 cap] -> r = .dW [] -> H' = H -> Calls P (ρ.f 189) vargs w (Ret X φ w r H') := by
  intro p cap hv hr hH;subst hv hr hH;refine (Any.slices_Sort_int_none Ly p cap w).mono ?_;rintro e w' ⟨rfl,rfl⟩;exact ⟨_,φ,rfl,.dW _ _ _ rfl (fun i c v hc => by simp at hc),hh,.refl _ _⟩
 unfold SX at hs;split at hs
 ·obtain ⟨v,rfl,hv⟩ := ha.one;cases hv;simp at hs;exact zB _ _ rfl hs.1.symm hs.2.symm
 ·obtain ⟨v,rfl,hv⟩ := ha.one;simp at hs;cases hv with
  | tS _ _ _ a n cap u hn iZ hk hu h =>
    simp at hn;subst hn;exact zB _ _ rfl hs.1.symm hs.2.symm
  | jM => exact zB _ _ rfl hs.1.symm hs.2.symm
 ·obtain ⟨v,rfl,hv⟩ := ha.one;split at hs
  ·rename_i h0;subst h0;simp at hs;cases hv;exact zB _ _ rfl hs.1.symm hs.2.symm
  ·rename_i h0;split at hs
   ·rename_i cs dv;split at hs
    ·rename_i hlen;split at hs
     ·rename_i zs UD;simp at hs;obtain ⟨rfl,rfl⟩ := hs;obtain ⟨g,cap,rfl,hc,Cv,hH,bA,_,Bd⟩ := R0 hh hv h0 dv hlen.1 UD;have dU := Any.slices_Sort_int Ly g _ cap zs w hH bA (by have := hlen.2; unfold lz at this; omega);rw [Cv] at dU;refine dU.mono ?_;rintro ee w' ⟨rfl,n,os,rfl⟩;obtain ⟨h1,h2⟩ := Bd (sorted zs) (by rw [wo,Cv]) n os;exact ⟨_,φ,rfl,.dW _ _ _ rfl (fun i c v hc => by simp at hc),h1,h2⟩
     ·cases hs
    ·cases hs
   ·cases hs
 ·cases hs
def cpt (zs : List Int) : List Int := Lib.compact zs
def zR : List AV -> Heap -> Option (AV × Heap)
 | [.dc],H => some (.dc,H)
 | [.list 1 []],H => some (.list 1 [],H)
 | [.sl 1 b off len],H => if len = 0 then some (.sl 1 b off 0,H) else match aH H b with
   | some cs => if off + len <= cs.length /\ len <= lz then match ke ((cs.drop off).take len) with
     | some zs => if (cpt zs).length <= len then some (.sl 1 b off (cpt zs).length,H.set b (some (jf cs off ((cpt zs ++ cK (len - (cpt zs).length) 0).map (AV.int .i64))))) else none
     | none => none
     else none
   | none => none
 | _,_ => none
theorem Ce {P : Program} {ρ : Ren} (Ly : Lays2.n20 P ρ) {args : List AV} {H : Heap} {r : AV} {H' : Heap} (hs : zR args H = some (r,H')) {X : Nat -> Prop} {φ : de} {w : World} {vargs : Array Value} (ha : pM X φ w args vargs) (hh : b6 X φ w H) :
  Calls P (ρ.f 20) vargs w (Ret X φ w r H') := by
 have zB : ∀ (p : Option Addr) (cap : Nat),vargs = #[.slice p 0 cap] -> bN (Rd X φ w) φ r (.slice p 0 cap) -> H' = H -> Calls P (ρ.f 20) vargs w (Ret X φ w r H') := by
  intro p cap hv hr hH;subst hv hH;refine (Any.slices_Compact_int_empty Ly p cap w).mono ?_;rintro e w' ⟨rfl,rfl⟩;exact ⟨_,φ,rfl,hr,hh,.refl _ _⟩
 unfold zR at hs;split at hs
 ·obtain ⟨v,rfl,hv⟩ := ha.one;simp at hs;obtain ⟨rfl,rfl⟩ := hs;cases hv;exact zB _ _ rfl (.dc _) rfl
 ·obtain ⟨v,rfl,hv⟩ := ha.one;simp at hs;obtain ⟨rfl,rfl⟩ := hs;have hv' := hv;cases hv with
  | tS _ _ _ a n cap u hn iZ hk hu h =>
    simp at hn;subst hn;exact zB _ _ rfl hv' rfl
  | jM => exact zB _ _ rfl hv' rfl
 ·rename_i H0 b off len;obtain ⟨v,rfl,hv⟩ := ha.one;split at hs
  ·rename_i h0;subst h0;simp at hs;obtain ⟨rfl,rfl⟩ := hs;have hv' := hv;cases hv;exact zB _ _ rfl hv' rfl
  ·rename_i h0;split at hs
   ·rename_i cs dv;split at hs
    ·rename_i hlen;split at hs
     ·rename_i zs UD;split at hs
      ·rename_i hdl;simp at hs;obtain ⟨rfl,rfl⟩ := hs;obtain ⟨g,cap,rfl,hc,Cv,hH,bA,Fu,Bd⟩ := R0 hh hv h0 dv hlen.1 UD;have dU := Any.slices_Compact_int Ly g _ cap zs w hH (by have := hlen.2; unfold lz at this; omega) (by omega);rw [Cv] at dU;refine dU.mono ?_;rintro ee w' ⟨rfl,n,rfl⟩;obtain ⟨h1,h2⟩ := Bd (cpt zs ++ cK (len - (cpt zs).length) 0) (by simp; omega) n #[];rw [grow_empty] at h1 h2;simp only [List.map_append,List.map_replicate] at h1;exact ⟨_,φ,rfl,Fu _ _ (by omega),h1,h2⟩
      ·cases hs
     ·cases hs
    ·cases hs
   ·cases hs
 ·cases hs
end Go.Am
namespace Go.Bm
open Go.Am Go.Sort Go.Shelf Go.Proofs
theorem Xz (l : List Int) : jg l = sorted l := by
 refine Ch ((sW l).trans (List.mergeSort_perm l _).symm) (A5 l) ?_;have := List.pairwise_mergeSort (le := fun x y : Int => decide (x <= y)) (fun a b c h1 h2 => by simp at h1 h2 ⊢; omega) (fun a b => by simp; omega) l;exact this.imp fun h => by simpa using h
theorem vY (zs : List Int) : aE (zs.map (AV.int .i64)) = zs.map (AV.int .i64) := by
 induction zs with
 | nil => rfl
 | cons x r ih => simp [aE,AV.cells,ih]
theorem sX {zs : List Int} {x : AV} (h : x ∈ zs.map (AV.int .i64)) : x.cells.length = 1 /\ ∀ d ∈ x.cells,fz d = true := by
 obtain ⟨z,_,rfl⟩ := List.mem_map.1 h;exact ⟨rfl,fun d hd => by simp [AV.cells] at hd; subst hd; rfl⟩
theorem N5 {X : Nat -> Prop} {φ : de} {w : World} {x : AV} {vargs : Array Value} {v0 : Value} (hs : vargs.size = 1) (h0 : vargs[0]? = some v0) (hr : bN (Rd X φ w) φ x v0) : pM X φ w [x] vargs := by
 refine ⟨by simp [hs],fun i y u hy hu => ?_⟩;cases i with
 | zero => simp at hy; subst hy; rw [h0] at hu; cases hu; exact hr
 | succ i => simp at hy
theorem Ij {R : Addr -> Value -> Prop} {φ : de} {k : Nat} {y : AV} {v0 : Value} (hy : y = .dc \/ y = .list k []) (hr : bN R φ y v0) : ∃ p cap,v0 = .slice p 0 cap := by
 rcases hy with rfl | rfl
 ·cases hr; exact ⟨_,_,rfl⟩
 ·cases hr with
  | tS _ _ _ a n cap u hn iZ hk hu h => simp at hn; subst hn; exact ⟨_,_,rfl⟩
  | jM => exact ⟨_,_,rfl⟩
theorem R7 {vargs : Array Value} {v0 : Value} (hs : ([] : List AV).length + 1 = vargs.size) (h0 : vargs[0]? = some v0) : vargs = #[v0] := by
 apply TE;intro i;cases i with
 | zero => simpa using h0
 | succ i => simp at hs ⊢; omega
theorem VR {P : Program} {ρ : w6} (Ly : Lays.n189 P ρ) {k : Nat} {xs es ys : List AV} {res : Option Nat} (hg : OI k xs es = some (ys,res)) :
  ((ys.length = xs.length /\ (∀ y ∈ ys,y.cells.length = k)) /\ ((∀ y ∈ ys,∀ d ∈ y.cells,fz d = true) /\ ∀ m,res = some m -> m <= xs.length)) /\
 (xs = [] -> ∀ (X : Nat -> Prop) (φ : de) (w : World) (vargs : Array Value) v0 y,(y = .dc \/ y = .list k []) -> es.length + 1 = vargs.size -> vargs[0]? = some v0 -> bN (Rd X φ w) φ y v0 -> (∀ (i : Nat) (e : AV) (v : Value),es[i]? = some e -> vargs[i + 1]? = some v -> bN (Rd X φ w) [] e v) ->
  Calls P (ρ.f 189) vargs w (fun e w' => ∃ v',e = .returned v' /\ bN (Rd X φ w') φ (match (generalizing := false) res with
   | none => .dW []
   | some _ => y) v' /\ fB [] w [] w')) /\
 ∀ (X : Nat -> Prop) (φ : de) (w : World) Ha n rest (vargs : Array Value) v0,b6 X φ w Ha -> aH Ha n = some (aE (xs ++ rest)) -> es.length + 1 = vargs.size -> vargs[0]? = some v0 -> bN (Rd X φ w) φ (.sl k n 0 xs.length) v0 -> (∀ (i : Nat) (e : AV) (v : Value),es[i]? = some e -> vargs[i + 1]? = some v -> bN (Rd X φ w) [] e v) ->
  Calls P (ρ.f 189) vargs w (fun e w' => ∃ v' φ',e = .returned v' /\ bN (Rd X φ' w') φ' (match (generalizing := false) res with
   | none => .dW []
   | some m => .sl k n 0 m) v' /\ b6 X φ' w' (Ha.set n (some (aE (ys ++ rest)))) /\ fB φ w φ' w') := by
 unfold OI at hg;split at hg
 case h_2 => cases hg
 split at hg
 case isFalse => cases hg
 rename_i XX;cases UD : ke xs with
 | none => rw [UD] at hg; cases hg
 | some zs =>
 rw [UD] at hg;simp only [aj,aF] at hg;obtain ⟨rfl,rfl⟩ := hg;have hx := vP UD;subst hx;refine ⟨⟨⟨by simp [jD],fun y hy => (sX hy).1⟩,fun y hy => (sX hy).2,fun m hm => by cases hm⟩,fun hnil X φ w vargs v0 y hy hs h0 hr _ => ?_,fun X φ w Ha n rest vargs v0 hh hb hs h0 hr _ => ?_⟩
 ·obtain ⟨p,cap,rfl⟩ := Ij hy hr;obtain rfl := R7 hs h0;refine (Any.slices_Sort_int_none Ly p cap w).mono ?_;rintro e w' ⟨rfl,rfl⟩;exact ⟨_,rfl,.dW _ _ _ rfl (fun i c v hc => by simp at hc),.refl _ _⟩
 ·have ha := N5 (by simpa using hs.symm) h0 hr;by_cases hz : zs = []
  ·subst hz
   have e : Ha.set n (some (aE ((jg []).map (AV.int .i64) ++ rest))) = Ha := by
    apply cY;intro j;rw [bj];split
    ·rename_i e; subst e;rw [if_pos (dZ hb),qk.1 hb]; rfl
    ·rfl
   rw [e];exact KE Ly (args := [.sl 1 n 0 0]) (H := Ha) (r := .dW []) (H' := Ha) rfl ha hh
  ·have Cv : zs.length ≠ 0 := fun h => hz (eI h);have hfl : aE (zs.map (AV.int .i64) ++ rest) = zs.map (AV.int .i64) ++ aE rest := by rw [jX,vY]
   have e : SX [.sl 1 n 0 zs.length] Ha = some (.dW [],Ha.set n (some (aE ((jg zs).map (AV.int .i64) ++ rest)))) := by
    unfold SX;simp only [if_neg Cv,hb,hfl];rw [if_pos ⟨by simp,by simpa using XX⟩];have ht : ((zs.map (AV.int .i64) ++ aE rest).drop 0).take zs.length = zs.map (AV.int .i64) := by simp
    rw [ht,qe];simp only;rw [jX,vY,Xz];unfold jf;simp [wo]
   have hl : (zs.map (AV.int .i64)).length = zs.length := by simp
   rw [hl] at ha;exact KE Ly e ha hh
end Go.Bm
/- The library's clone of an empty slice, of ints and of pairs, as an own empty slice. -/
namespace Go.Am
theorem b6.acD {X : Nat -> Prop} {φ : de} {w w' : World} {H : Heap} (h : b6 X φ w H) (a1 : fB [] w [] w') {g : Nat} {cur : Array Value} {e : TypeId} (hg : w.heap.size <= g) (hw : w'.heap[g]? = some (.cells cur e (0,0))) :
  b6 X (φ ++ [some (g,cur.size)]) w' (H ++ [some []]) /\ fB φ w (φ ++ [some (g,cur.size)]) w' := by
 have own : ∀ g,bK φ g -> g < w.heap.size := by
  intro g ⟨b,sz,hb⟩;have bA : b < H.length := h.len ▸ aB hb;obtain ⟨x,hx⟩ := bc bA;cases x with
  | none => rw [h.dead b hx] at hb; simp at hb
  | some cs =>
    obtain ⟨g',m9,arr,e,h1,h2,_⟩ := h.live b cs hx;rw [h1] at hb;simp at hb;rw [<- hb.1];exact (dx.1 h2).1
 have a : fB φ w (φ ++ [some (g,cur.size)]) w' := by
  refine ⟨a1.os,a1.tape,a1.output,a1.drawn,a1.size,fun k hk hn => ⟨(a1.keep k hk (bK.nil k)).1,?_⟩,⟨by simp,fun b p hb hp => ?_⟩⟩
  ·rintro ⟨b,sz,hb⟩;by_cases bA : b < φ.length
   ·rw [av bA] at hb;exact hn ⟨b,sz,hb⟩
   ·have gr := aB hb;simp at gr;have CE : b = φ.length := by omega
    subst CE;simp at hb;omega
  ·rwa [av hb] at hp
 refine ⟨⟨by simp [h.len],fun k hk => Nat.lt_of_lt_of_le (h.GL k hk) a1.size,fun b ds hb => ?_,fun b hb => ?_,fun b b' k sz m9 h1 h2 => ?_⟩,a⟩
 ·by_cases bA : b < H.length
  ·rw [av bA] at hb;obtain ⟨k,sz,ar,e',h1,h2,h3,h4,h5,h6⟩ := h.live b ds hb;refine ⟨k,sz,ar,e',by rw [av (by rw [h.len]; exact bA)]; exact h1,?_,h3,h4,h5,fun i c hc => ?_⟩
   ·rw [(a1.keep k (dx.1 h2).1 (bK.nil k)).1]; exact h2
   ·obtain ⟨u,hu,r⟩ := h6 i c hc;exact ⟨u,hu,a.rep r⟩
  ·have gr := aB hb;simp at gr;have CE : b = H.length := by omega
   subst CE;simp at hb;subst hb;exact ⟨g,cur.size,cur,e,by rw [<- h.len]; simp,hw,rfl,by simp,fun hx => by have := h.GL _ hx; omega,fun i c hi => by simp at hi⟩
 ·by_cases bA : b < H.length
  ·rw [av bA] at hb;rw [av (by rw [h.len]; exact bA)];exact h.dead b hb
  ·have gr := aB hb;simp at gr;have CE : b = H.length := by omega
   subst CE;simp at hb
 ·have new : ∀ (b k sz : Nat),(φ ++ [some (g,cur.size)])[b]? = some (some (k,sz)) -> (b < φ.length /\ φ[b]? = some (some (k,sz)) /\ k < w.heap.size) \/ (b = φ.length /\ k = g) := by
   intro b k sz hb;by_cases bA : b < φ.length
   ·rw [av bA] at hb;exact .inl ⟨bA,hb,own k ⟨b,sz,hb⟩⟩
   ·have gr := aB hb;simp at gr;have CE : b = φ.length := by omega
    subst CE;simp at hb;exact .inr ⟨rfl,hb.1.symm⟩
  rcases new b k sz h1 with ⟨l1,e1,g1⟩ | ⟨l1,g1⟩ <;> rcases new b' k m9 h2 with ⟨l2,e2,g2⟩ | ⟨l2,g2⟩
  ·exact h.inj b b' k sz m9 e1 e2
  ·omega
  ·omega
  ·omega
end Go.Am
namespace Go.Proofs
open Go.Shelf Go.RowKit Go.Lib
theorem U6 : (Tryd.prog.info? 3).map (fun i => (i.zero,i.size,i.bytes)) = some (some (.int .i64 0),1,8) := by kernel_rfl
set_option maxHeartbeats 2000000 in
set_option maxRecDepth 100000 in
theorem U5 (a : Addr) (c : Nat) (w : World) : Calls Tryd.prog 67 #[.slice (some a) 0 c] w fun e w' => e = .returned (.slice (some ⟨w.heap.size,0,none⟩) 0 0) /\ w' = w.alloc (.cells #[] 3) := by
 have t4 := Tryd.underlying4; have a4 := Tryd.isAgg4; have z4 := Tryd.sizeOf4; have v4 := Tryd.zeroValue4; have t22 := Tryd.underlying22; have a22 := Tryd.isAgg22; have z22 := Tryd.sizeOf22; have v22 := Tryd.zeroValue22; have z43 := Tryd.sizeOf3;have mixed : Tryd.prog.follows .mixedOrders = true := by kernel_rfl
 obtain ⟨i0,hi0,_,_,_⟩ := info_parts U6;have q22 : ∀ (w : World) (a : Option Addr) (n c n' c' : Nat),(binOp .eql 22 (.slice a n c) (.slice none n' c')).run Tryd.prog w = .ok (.bool a.isNone) w := fun w a n c n' c' => Lib.run_eql_slice_nil w _ _ a n c n' c' t22;have u22 : ∀ w,Sem.run Tryd.prog (underlying 22) w = .ok (TypeDesc.slice 3) w := run_underlying t22;have nn : ∀ ty W,(Builtin.append_ #[22,22] ty #[.slice (some ⟨w.heap.size,0,none⟩) 0 0,.slice (some a) 0 c]).run Tryd.prog W = .ok (.slice (some ⟨w.heap.size,0,none⟩) 0 0) W := fun ty W => Go.Am.nJ t22 hi0 (aS 0)
 go_enter Tryd.func67,Tryd.ntmps67
 go_wp2_with (at_builtin; refine Lib.wpList_append_run _ rfl _ _ _ _ rfl _ _ rfl rfl _ _ (nn _ _) ?_)
 go_ret
 exact ⟨rfl,rfl⟩
set_option maxHeartbeats 1000000 in
theorem Yz (n c : Nat) (w : World) : Calls Tryd.prog 67 #[.slice none n c] w fun e w' => e = .returned (.slice none 0 0) /\ w' = w := by
 have t4 := Tryd.underlying4; have a4 := Tryd.isAgg4; have z4 := Tryd.sizeOf4; have v4 := Tryd.zeroValue4; have t22 := Tryd.underlying22; have a22 := Tryd.isAgg22; have z22 := Tryd.sizeOf22; have v22 := Tryd.zeroValue22;have mixed : Tryd.prog.follows .mixedOrders = true := by kernel_rfl
 have q22 : ∀ (w : World) (a : Option Addr) (n c n' c' : Nat),(binOp .eql 22 (.slice a n c) (.slice none n' c')).run Tryd.prog w = .ok (.bool a.isNone) w := fun w a n c n' c' => Lib.run_eql_slice_nil w _ _ a n c n' c' t22
 go_enter Tryd.func67,Tryd.ntmps67
 go_wp2
 go_ret
 exact ⟨rfl,rfl⟩
end Go.Proofs
namespace Go.Bm
open Go.Am Go.Shelf Go.Proofs
def afa : List AV -> Heap -> Option (AV × Heap)
 | [.list 1 []],[] => some (.own 1 [],[])
 | _,_ => none
/- The library's clone of an empty slice and compact of ints, as the machine by value knows them. -/
theorem QD {X : Nat -> Prop} {φ : de} {w w' : World} {N : Names} {s : St} {Ha : Heap} {t : Nat -> Value} {B : Nat -> Nat} {v' : Value} {k : Nat} (h : eW X φ w N s Ha t) (a1 : fB [] w [] w') (hr : bN (Rd X φ w') φ (.list k []) v') : Kj X φ w B 0 (.list k []) [] (.returned v') w' := by
 have Fv : ∀ i,Am.get [(0,AV.list k [])] i = if i = 0 then .list k [] else .any := fun i => by simp only [Am.get]
 have gY : ∀ p,aC ⟨[(0,AV.list k [])],[]⟩ p = none := by
  intro p;cases p with
  | s i =>
    simp only [aC,at_,Fv];by_cases hi : i = 0
    ·rw [if_pos hi]
    ·rw [if_neg hi]
  | sc i j =>
    simp only [aC,at_,Fv];by_cases hi : i = 0
    ·rw [if_pos hi]
    ·rw [if_neg hi]
  | c b j => simp [aC,at_,aH]
 refine ⟨v',φ,rfl,⟨⟨N.β,fun _ => none⟩,Ha,⟨fun i => ?_,fun i => ?_,h.heap.of_same a1,fun p k' xs e => ?_,fun b cs e => by simp [aH] at e,fun p q n e => ?_,fun b p e => by simp [aH] at e,fun b c e => by simp [aH] at e⟩,fun b hb => by omega,Nat.zero_le _⟩,.of_same a1⟩
 ·show bN _ _ (jS _ i (Am.get [(0,AV.list k [])] i)) (if i = 0 then v' else undef);rw [Fv];by_cases e : i = 0
  ·rw [if_pos e,if_pos e]; exact hr
  ·rw [if_neg e,if_neg e]; exact .any _ _
 ·show cr _ _ (Am.get [(0,AV.list k [])] i);rw [Fv];split <;> trivial
 ·rw [gY] at e; cases e
 ·rw [gY] at e; cases e
theorem aaX {args : List AV} {H : Heap} {r : AV} {H' : Heap} (hg : UT args H = some (r,H')) {X : Nat -> Prop} {φ : de} {w : World} {B : Nat -> Nat} {vargs : Array Value} (hl : args.length = vargs.size) (hs : SB X φ w B H.length ⟨dH 0 args,H⟩ (fun i => vargs.getD i undef)) :
  Calls aq 67 vargs w (Kj X φ w B H.length r H') := by
 unfold UT at hg;split at hg
 case h_2 => cases hg
 simp only [aj,aF] at hg;obtain ⟨rfl,rfl⟩ := hg;obtain ⟨N,Ha,h,hb⟩ := hs;have nk : vargs.size = 1 := by simpa using hl.symm
 obtain ⟨v,rfl⟩ : ∃ v,vargs = #[v] := ⟨vargs[0],by apply Array.ext <;> simp [nk]; intro i hi; simp [show i = 0 by omega]⟩;have r0 : bN (Rd X φ w) φ (.list 1 []) v := h.env 0;cases r0 with
 | tS _ _ _ a n cap u hn iZ hk hu h' =>
   simp at hn;subst hn;refine (U5 a cap w).mono ?_;rintro e w' ⟨rfl,rfl⟩;have a1 : fB [] w [] (w.alloc (.cells #[] 3)) := ⟨rfl,rfl,rfl,aS _,by show w.heap.size <= (w.heap.push _).size; simp,fun g hg h => ⟨by show (w.heap.push _)[g]? = _; rw [Array.getElem?_push_lt hg,Array.getElem?_eq_getElem hg],h⟩,.refl _⟩;exact QD h a1 (.tS _ _ _ _ _ _ (fun _ _ => undef) (by simp) (by omega) (fun x hx => by simp at hx) (fun i j x c hx => by simp at hx) (fun i j x c hx => by simp at hx))
 | jM =>
   refine (Yz 0 0 w).mono ?_;rintro e w' ⟨rfl,rfl⟩;exact QD h (.refl _ _) (.jM _ _)
theorem S4 : ∀ (l : List Int) (z : Int),dd (l ++ [z]) = dd l ++ (if l.getLast? = some z then [] else [z])
 | [],z => by simp [dd]
 | [x],z => by
   by_cases h : x = z
   ·subst h; simp [dd]
   ·simp [dd,h]
 | x :: y :: r,z => by
   have ih := S4 (y :: r) z;simp only [List.cons_append] at ih ⊢;unfold dd;rw [ih];have e : (x :: y :: r).getLast? = (y :: r).getLast? := by simp [List.getLast?_cons]
   rw [e];split <;> rfl
theorem S8 (l : List Int) (z : Int) : ∀ m,m <= l.length -> Lib.compactUpTo (l ++ [z]).toArray m = Lib.compactUpTo l.toArray m
 | 0,_ => rfl
 | m + 1,hm => by
   rw [Lib.compactUpTo_succ,Lib.compactUpTo_succ,S8 l z m (by omega)]
   have g : ∀ j,j < l.length -> (l ++ [z]).toArray[j]! = l.toArray[j]! := fun j hj => by
    simp [hj,show j < l.length + 1 by omega]
   have k : Lib.keeps (l ++ [z]).toArray m = Lib.keeps l.toArray m := by
    simp only [Lib.keeps,g m (by omega),g (m - 1) (by omega)]
   rw [k,g m (by omega)]
theorem PZ (l : List Int) : Lib.compact l = dd l := by
 have key : ∀ n (l : List Int),l.length = n -> Lib.compact l = dd l := by
  intro n
  induction n with
  | zero => intro l h; obtain rfl := List.length_eq_zero_iff.1 h; rfl
  | succ n ih =>
    intro l h;obtain ⟨r,z,rfl⟩ : ∃ r z,l = r ++ [z] := ⟨l.dropLast,l.getLast (by intro e; subst e; simp at h),(List.dropLast_concat_getLast _).symm⟩;have hr : r.length = n := by simpa using h
    have ih := ih r hr;unfold Lib.compact at ih ⊢;rw [List.length_append,List.length_singleton,Lib.compactUpTo_succ,S8 r z r.length (aS _),ih,S4];congr 1;have g : (r ++ [z]).toArray[r.length]! = z := by simp
    rw [g];by_cases h0 : r = []
    ·subst h0; rfl
    ·have hp : 0 < r.length := List.length_pos_iff.2 h0
     have g2 : (r ++ [z]).toArray[r.length - 1]! = r.getLast h0 := by
      rw [List.getLast_eq_getElem];simp [show r.length - 1 < r.length by omega,show r.length - 1 < r.length + 1 by omega]
     rw [List.getLast?_eq_some_getLast h0];by_cases he : r.getLast h0 = z
     ·have : Lib.keeps (r ++ [z]).toArray r.length = false := Lib.keeps_neg hp (by rw [g,g2,he]);rw [this,he]; simp
     ·have : Lib.keeps (r ++ [z]).toArray r.length = true := Lib.keeps_pos (by rw [g,g2]; exact fun e => he e.symm);rw [this,if_pos rfl,if_neg];intro e; exact he (dm e)
 exact key _ l rfl
theorem NI {P : Program} {ρ : w6} (Ly : Lays2.n20 P ρ) {k : Nat} {xs es ys : List AV} {res : Option Nat} (hg : PX k xs es = some (ys,res)) :
  ((ys.length = xs.length /\ (∀ y ∈ ys,y.cells.length = k)) /\ ((∀ y ∈ ys,∀ d ∈ y.cells,fz d = true) /\ ∀ m,res = some m -> m <= xs.length)) /\
 (xs = [] -> ∀ (X : Nat -> Prop) (φ : de) (w : World) (vargs : Array Value) v0 y,(y = .dc \/ y = .list k []) -> es.length + 1 = vargs.size -> vargs[0]? = some v0 -> bN (Rd X φ w) φ y v0 -> (∀ (i : Nat) (e : AV) (v : Value),es[i]? = some e -> vargs[i + 1]? = some v -> bN (Rd X φ w) [] e v) ->
  Calls P (ρ.f 20) vargs w (fun e w' => ∃ v',e = .returned v' /\ bN (Rd X φ w') φ (match (generalizing := false) res with
   | none => .dW []
   | some _ => y) v' /\ fB [] w [] w')) /\
 ∀ (X : Nat -> Prop) (φ : de) (w : World) Ha n rest (vargs : Array Value) v0,b6 X φ w Ha -> aH Ha n = some (aE (xs ++ rest)) -> es.length + 1 = vargs.size -> vargs[0]? = some v0 -> bN (Rd X φ w) φ (.sl k n 0 xs.length) v0 -> (∀ (i : Nat) (e : AV) (v : Value),es[i]? = some e -> vargs[i + 1]? = some v -> bN (Rd X φ w) [] e v) ->
  Calls P (ρ.f 20) vargs w (fun e w' => ∃ v' φ',e = .returned v' /\ bN (Rd X φ' w') φ' (match (generalizing := false) res with
   | none => .dW []
   | some m => .sl k n 0 m) v' /\ b6 X φ' w' (Ha.set n (some (aE (ys ++ rest)))) /\ fB φ w φ' w') := by
 unfold PX at hg;split at hg
 case h_2 => cases hg
 split at hg
 case isFalse => cases hg
 rename_i XX;cases UD : ke xs with
 | none => rw [UD] at hg; cases hg
 | some zs =>
 rw [UD] at hg;simp only [aj,aF] at hg;obtain ⟨rfl,rfl⟩ := hg;have hx := vP UD;subst hx;have hdl := PW zs;refine ⟨⟨⟨by simp; omega,fun y hy => (sX hy).1⟩,fun y hy => (sX hy).2,fun m hm => by cases hm; simpa using hdl⟩,fun hnil X φ w vargs v0 y hy hs h0 hr _ => ?_,fun X φ w Ha n rest vargs v0 hh hb hs h0 hr _ => ?_⟩
 ·obtain ⟨p,cap,rfl⟩ := Ij hy hr;obtain rfl := R7 hs h0;refine (Any.slices_Compact_int_empty Ly p cap w).mono ?_;rintro e w' ⟨rfl,rfl⟩;exact ⟨_,rfl,hr,.refl _ _⟩
 ·have ha := N5 (by simpa using hs.symm) h0 hr;by_cases hz : zs = []
  ·subst hz
   have e : Ha.set n (some (aE ((dd [] ++ cK (([] : List Int).length - (dd []).length) 0).map (AV.int .i64) ++ rest))) = Ha := by
    apply cY;intro j;rw [bj];split
    ·rename_i e; subst e;rw [if_pos (dZ hb),qk.1 hb]; rfl
    ·rfl
   rw [e];exact Ce Ly (args := [.sl 1 n 0 0]) (H := Ha) (r := .sl 1 n 0 0) (H' := Ha) rfl ha hh
  ·have Cv : zs.length ≠ 0 := fun h => hz (eI h);have hfl : aE (zs.map (AV.int .i64) ++ rest) = zs.map (AV.int .i64) ++ aE rest := by rw [jX,vY]
   have e : zR [.sl 1 n 0 zs.length] Ha = some (.sl 1 n 0 (dd zs).length,Ha.set n (some (aE ((dd zs ++ cK (zs.length - (dd zs).length) 0).map (AV.int .i64) ++ rest)))) := by
    unfold zR;simp only [if_neg Cv,hb,hfl];rw [if_pos ⟨by simp,by simpa using XX⟩];have ht : ((zs.map (AV.int .i64) ++ aE rest).drop 0).take zs.length = zs.map (AV.int .i64) := by simp
    rw [ht,qe];simp only [cpt,PZ];rw [if_pos hdl,jX,vY];unfold jf;have Cz : (List.map (AV.int .i64) (dd zs ++ cK (zs.length - (dd zs).length) 0)).length = zs.length := by simp; omega
    rw [Cz];simp
   have hl : (zs.map (AV.int .i64)).length = zs.length := by simp
   rw [hl] at ha;exact Ce Ly e ha hh
end Go.Bm
