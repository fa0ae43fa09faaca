/- The library's Reverse of ints as a function that writes into the slice it is given: out of the shelf's contract. -/
import Derived.Test.YtppmiehidnpgbaaGreatDoorSrtO
import Derived.Test.YtppmiehidnpgbaaGreatDoorRvG
import Derived.Shelf.Slices.Reverse
open Go.Shelf renaming Ren → wL
open Option.some renaming injEq → ah
namespace Go.Bm
open Go.Am Go.Sort Go.Shelf Go.Proofs
theorem aaS {P : Program} {ρ : Ren} (Ly : Lays.n112 P ρ) {X : Nat -> Prop} {φ : dy} {w : World} {H : Heap} {n len : Nat} {cs : List AV} {zs : List Int} {vargs : Array Value} (ha : sJ X φ w [.sl 1 n 0 len] vargs) (hh : cG X φ w H) (h0 : len ≠ 0) (dP : aN H n = some cs) (hlen : 0 + len <= cs.length) (Ln : len <= lj) (Lk : jr ((cs.drop 0).take len) = some zs) :
  Calls P (ρ.f 112) vargs w (Ret X φ w (.dB []) (H.set n (some (jv cs 0 (zs.reverse.map (AV.int .i64)))))) := by
 obtain ⟨v,rfl,hv⟩ := ha.one;obtain ⟨g,cap,rfl,hc,yy,hH,bL,_,xW⟩ := KL hh hv h0 dP hlen Lk;have dX := Any.slices_Reverse_int Ly g _ cap zs w hH (by unfold lj at Ln; omega);rw [yy] at dX;refine dX.mono ?_;rintro ee w' ⟨rfl,m,rfl⟩;obtain ⟨h1,h2⟩ := xW zs.reverse (by rw [List.length_reverse,yy]) m #[];have e : ∀ W : World,grow W #[] = W := fun W => by unfold grow; simp
 rw [e] at h1 h2;exact ⟨_,φ,rfl,.dB _ _ _ rfl (fun i c v hc => by simp at hc),h1,h2⟩
theorem aaT {P : Program} {ρ : wL} (Ly : Lays.n112 P ρ) {k : Nat} {xs es ys : List AV} {res : Option Nat} (hg : rvG k xs es = some (ys,res)) :
  ((ys.length = xs.length /\ (∀ y ∈ ys,y.cells.length = k)) /\ ((∀ y ∈ ys,∀ d ∈ y.cells,fz d = true) /\ ∀ m,res = some m -> m <= xs.length)) /\
 (xs = [] -> ∀ (X : Nat -> Prop) (φ : dy) (w : World) (vargs : Array Value) v0 y,(y = .dz \/ y = .list k []) -> es.length + 1 = vargs.size -> vargs[0]? = some v0 -> bT (Rd X φ w) φ y v0 -> (∀ (i : Nat) (e : AV) (v : Value),es[i]? = some e -> vargs[i + 1]? = some v -> bT (Rd X φ w) [] e v) ->
  Calls P (ρ.f 112) vargs w (fun e w' => ∃ v',e = .returned v' /\ bT (Rd X φ w') φ (match (generalizing := false) res with
   | none => .dB []
   | some _ => y) v' /\ fJ [] w [] w')) /\
 ∀ (X : Nat -> Prop) (φ : dy) (w : World) Ha n rest (vargs : Array Value) v0,cG X φ w Ha -> aN Ha n = some (aH (xs ++ rest)) -> es.length + 1 = vargs.size -> vargs[0]? = some v0 -> bT (Rd X φ w) φ (.sl k n 0 xs.length) v0 -> (∀ (i : Nat) (e : AV) (v : Value),es[i]? = some e -> vargs[i + 1]? = some v -> bT (Rd X φ w) [] e v) ->
  Calls P (ρ.f 112) vargs w (fun e w' => ∃ v' φ',e = .returned v' /\ bT (Rd X φ' w') φ' (match (generalizing := false) res with
   | none => .dB []
   | some m => .sl k n 0 m) v' /\ cG X φ' w' (Ha.set n (some (aH (ys ++ rest)))) /\ fJ φ w φ' w') := by
 unfold rvG at hg;split at hg
 case isFalse => cases hg
 rename_i hc;obtain ⟨rfl,he,Ln⟩ := hc;have he0 : es = [] := List.isEmpty_iff.1 he;subst he0;cases Lk : jr xs with
 | none => rw [Lk] at hg; cases hg
 | some zs =>
 rw [Lk] at hg;simp only [ah,Prod.mk.injEq] at hg;obtain ⟨rfl,rfl⟩ := hg;have hx := rW Lk;subst hx;refine ⟨⟨⟨by simp,fun y hy => (mJ hy).1⟩,fun y hy => (mJ hy).2,fun m hm => by cases hm⟩,fun hnil X φ w vargs v0 y hy hs h0 hr _ => ?_,fun X φ w Ha n rest vargs v0 hh hb hs h0 hr _ => ?_⟩
 ·obtain ⟨p,cap,rfl⟩ := AL hy hr;obtain rfl := CS hs h0;refine (Any.slices_Reverse_int_empty Ly p cap w).mono ?_;rintro e w' ⟨rfl,rfl⟩;exact ⟨_,rfl,.dB _ _ _ rfl (fun i c v hc => by simp at hc),.refl _ _⟩
 ·have ha := GV (by simpa using hs.symm) h0 hr;by_cases hz : zs = []
  ·subst hz
   have e : Ha.set n (some (aH (([] : List Int).reverse.map (AV.int .i64) ++ rest))) = Ha := by
    apply List.ext_getElem?;intro j;rw [List.getElem?_set];split
    ·rename_i e; subst e;rw [if_pos (dL hb),pe.1 hb]; rfl
    ·rfl
   rw [e]
   obtain ⟨p,cap,rfl⟩ : ∃ p cap,v0 = .slice p 0 cap := by
    cases hr;exact ⟨_,_,rfl⟩
   obtain rfl := CS hs h0;refine (Any.slices_Reverse_int_empty Ly p cap w).mono ?_;rintro e w' ⟨rfl,rfl⟩;exact ⟨_,φ,rfl,.dB _ _ _ rfl (fun i c v hc => by simp at hc),hh,.refl _ _⟩
  ·have yy : zs.length ≠ 0 := fun h => hz (List.eq_nil_of_length_eq_zero h);have Qm : aH (zs.map (AV.int .i64) ++ rest) = zs.map (AV.int .i64) ++ aH rest := by rw [gT,mK]
   have hl : (zs.map (AV.int .i64)).length = zs.length := by simp
   rw [hl] at ha Ln;have c := aaS Ly (H := Ha) (zs := zs) ha hh yy hb (by rw [Qm]; simp) (by unfold lj; omega) (by rw [Qm]; simp [k8])
   have e : jv (aH (zs.map (AV.int .i64) ++ rest)) 0 (zs.reverse.map (AV.int .i64)) = aH (zs.reverse.map (AV.int .i64) ++ rest) := by
    rw [gT,gT,mK,mK];unfold jv;simp
   rw [e] at c;exact c
end Go.Bm
