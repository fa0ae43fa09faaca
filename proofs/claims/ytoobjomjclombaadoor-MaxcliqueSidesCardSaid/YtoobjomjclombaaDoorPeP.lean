/- Greedy colourings, in plain words: they are proper, and two colours are enough if one side comes first. -/
import Derived.Test.YtoobjomjclombaaDoorRvG
import Derived.Laws.BitsAllLaws
set_option linter.unusedSimpArgs false
set_option linter.unusedVariables false
namespace Go.BmP
open Go.Am Go.Bm
def tkn (L : List Int) : List Bool := (List.range 65).map fun (c : Nat) => decide ((c : Int) ∈ L)
def mex (L : List Int) : Nat := (tkn L).findIdx fun b => !b
theorem pigeon : ∀ (k : Nat) (L : List Int),(∀ c : Nat,c < k -> (c : Int) ∈ L) -> k <= L.length
 | 0,_,_ => Nat.zero_le _
 | k + 1,L,h => by
   have hk := h k (by omega);have := pigeon k (L.erase (k : Int)) fun c hc => (List.mem_erase_of_ne (by omega)).2 (h c (by omega));rw [List.length_erase_of_mem hk] at this;have := List.length_pos_of_mem hk;omega
theorem tkn_len (L : List Int) : (tkn L).length = 65 := by unfold tkn; rw [List.length_map,List.length_range]
theorem tkn_get (L : List Int) (c : Nat) (h : c < (tkn L).length) : (tkn L)[c] = decide ((c : Int) ∈ L) := by
 simp only [tkn,List.getElem_map,List.getElem_range]
theorem mex_low (L : List Int) {c : Nat} (h : c < mex L) (h2 : c < 65) : (c : Int) ∈ L := by
 have hc : c < (tkn L).length := by rw [tkn_len]; exact h2
 have := List.not_of_lt_findIdx h;rw [tkn_get] at this;simpa using this
theorem mex_le (L : List Int) (h : L.length < 65) : mex L <= L.length := by
 apply Nat.le_of_not_lt;intro q;have := pigeon (L.length + 1) L fun c hc => mex_low L (by omega) (by omega);omega
theorem mex_out (L : List Int) (h : L.length < 65) : (mex L : Int) ∉ L := by
 have hl : mex L < (tkn L).length := by have := mex_le L h; rw [tkn_len]; omega
 have := List.findIdx_getElem (w := hl) (p := fun b => !b) (xs := tkn L);have g := tkn_get L (mex L) hl;unfold mex at g ⊢;rw [g] at this;simpa using this
def ncl (C : List Int) (W : List Int) : List Int := W.filterMap fun w => if 0 <= C.getD w.toNat (-1) then some (C.getD w.toNat (-1)) else none
def stc (nb : Nat -> List Int) (C : List Int) (v : Int) : List Int := C.set v.toNat (mex (ncl C (nb v.toNat)) : Nat)
def grc (nb : Nat -> List Int) (N : Nat) (O : List Int) : List Int := O.foldl (stc nb) (List.replicate N (-1))
theorem ncl_len (C W : List Int) : (ncl C W).length <= W.length := List.length_filterMap_le _ _
theorem ncl_mem {C W : List Int} {c : Int} : c ∈ ncl C W ↔ ∃ w ∈ W,C.getD w.toNat (-1) = c /\ 0 <= c := by
 unfold ncl;rw [List.mem_filterMap];constructor
 ·rintro ⟨w,hw,h⟩;split at h
  ·rename_i q;cases h;exact ⟨w,hw,rfl,q⟩
  ·cases h
 ·rintro ⟨w,hw,rfl,h⟩;exact ⟨w,hw,by rw [if_pos h]⟩
structure NbOK (nb : Nat -> List Int) (N : Nat) : Prop where
 len : ∀ v,v < N -> (nb v).length < 65
 rng : ∀ v,v < N -> ∀ w ∈ nb v,0 <= w /\ w < N
 sym : ∀ u v : Nat,u < N -> v < N -> (v : Int) ∈ nb u -> (u : Int) ∈ nb v
 irr : ∀ v : Nat,v < N -> (v : Int) ∉ nb v
structure Cso (nb : Nat -> List Int) (N : Nat) (C : List Int) : Prop where
 len : C.length = N
 rng : ∀ c ∈ C,-1 <= c /\ c < 65
 pro : ∀ u v : Nat,u < N -> v < N -> (v : Int) ∈ nb u -> 0 <= C.getD u (-1) -> C.getD u (-1) ≠ C.getD v (-1)
theorem getD_set {C : List Int} {i j : Nat} {x d : Int} (h : i < C.length) : (C.set i x).getD j d = if i = j then x else C.getD j d := by
 rw [List.getD_eq_getElem?_getD,List.getElem?_set,List.getD_eq_getElem?_getD];by_cases e : i = j
 ·subst e;rw [if_pos rfl,if_pos h,if_pos rfl]; rfl
 ·rw [if_neg e,if_neg e]
theorem stc_ok {nb : Nat -> List Int} {N : Nat} (hn : NbOK nb N) {C : List Int} (h : Cso nb N C) {v : Int} (hv : 0 <= v /\ v < N) : Cso nb N (stc nb C v) := by
 obtain ⟨v,rfl⟩ : ∃ k : Nat,v = (k : Int) := ⟨v.toNat,by omega⟩;have hv' : v < N := by omega
 have hl : v < C.length := by rw [h.len]; exact hv'
 have ht : (v : Int).toNat = v := by omega
 have nl : (ncl C (nb v)).length < 65 := by have := ncl_len C (nb v); have := hn.len v hv'; omega
 have ml := mex_le _ nl;have mo := mex_out _ nl;unfold stc;rw [ht];generalize hm : mex (ncl C (nb v)) = m at *;refine ⟨by rw [List.length_set,h.len],fun c hc => ?_,fun a b ha hb hab h0 => ?_⟩
 ·rcases List.mem_or_eq_of_mem_set hc with q | q
  ·exact h.rng c q
  ·omega
 ·rw [getD_set hl] at h0;rw [getD_set hl,getD_set hl];by_cases e : v = a
  ·subst e;have : v ≠ b := fun q => hn.irr v hv' (q ▸ hab);rw [if_pos rfl,if_neg this];intro q;exact mo (ncl_mem.2 ⟨b,hab,by rw [show (b : Int).toNat = b by omega]; exact q.symm,by omega⟩)
  ·rw [if_neg e] at h0 ⊢;by_cases e2 : v = b
   ·subst e2;rw [if_pos rfl];intro q;exact mo (ncl_mem.2 ⟨a,hn.sym a v ha hv' hab,by rw [show (a : Int).toNat = a by omega]; exact q,by omega⟩)
   ·rw [if_neg e2];exact h.pro a b ha hb hab h0
theorem fold_ok {nb : Nat -> List Int} {N : Nat} (hn : NbOK nb N) : ∀ (O C : List Int),(∀ v ∈ O,0 <= v /\ v < (N : Int)) -> Cso nb N C -> Cso nb N (O.foldl (stc nb) C) /\ (∀ i : Nat,i < N -> (0 <= C.getD i (-1) \/ (i : Int) ∈ O) -> 0 <= (O.foldl (stc nb) C).getD i (-1))
 | [],C,_,h => ⟨h,fun i hi q => q.elim id fun q => absurd q List.not_mem_nil⟩
 | v :: O,C,hO,h => by
   have hv := hO v List.mem_cons_self;have hl : v.toNat < C.length := by rw [h.len]; omega
   obtain ⟨a,b⟩ := fold_ok hn O (stc nb C v) (fun w hw => hO w (List.mem_cons_of_mem _ hw)) (stc_ok hn h hv);refine ⟨a,fun i hi q => b i hi ?_⟩;unfold stc;rw [getD_set hl];by_cases e : v.toNat = i
   ·rw [if_pos e]; exact .inl (by omega)
   ·rw [if_neg e];rcases q with q | q
    ·exact .inl q
    ·rcases List.mem_cons.1 q with q | q
     ·omega
     ·exact .inr q
theorem cso_zero (nb : Nat -> List Int) (N : Nat) : Cso nb N (List.replicate N (-1)) := by
 refine ⟨List.length_replicate,fun c hc => ?_,fun u v hu hv _ h0 => ?_⟩
 ·rw [List.eq_of_mem_replicate hc]; omega
 ·rw [List.getD_eq_getElem?_getD,List.getElem?_replicate,if_pos hu] at h0;simp at h0
theorem two_a {nb : Nat -> List Int} {N : Nat} (A : List Int) (hA : ∀ v ∈ A,0 <= v /\ v < (N : Int)) (hi : ∀ v ∈ A,∀ w ∈ nb v.toNat,w ∉ A /\ 0 <= w) : ∀ (O C : List Int),(∀ v ∈ O,v ∈ A) -> C.length = N -> (∀ i : Nat,C.getD i (-1) = -1 \/ ((i : Int) ∈ A /\ C.getD i (-1) = 0)) -> (O.foldl (stc nb) C).length = N /\ ∀ i : Nat,(O.foldl (stc nb) C).getD i (-1) = -1 \/ ((i : Int) ∈ A /\ (O.foldl (stc nb) C).getD i (-1) = 0)
 | [],C,_,hl,h => ⟨hl,h⟩
 | v :: O,C,hO,hl,h => by
   have hvA := hO v List.mem_cons_self;have hv := hA v hvA;have hlt : v.toNat < C.length := by omega
   have e : ncl C (nb v.toNat) = [] := by
    apply List.eq_nil_iff_forall_not_mem.2;intro c hc;obtain ⟨w,hw,q,q0⟩ := ncl_mem.1 hc;obtain ⟨n1,n2⟩ := hi v hvA w hw;rcases h w.toNat with r | ⟨r,_⟩
    ·omega
    ·exact n1 (by rwa [show ((w.toNat : Nat) : Int) = w by omega] at r)
   refine two_a A hA hi O (stc nb C v) (fun w hw => hO w (List.mem_cons_of_mem _ hw)) (by unfold stc; rw [List.length_set,hl]) fun i => ?_;unfold stc;rw [getD_set hlt,e];by_cases q : v.toNat = i
   ·rw [if_pos q];refine .inr ⟨?_,?_⟩
    ·rwa [show ((i : Nat) : Int) = v by omega]
    ·have := mex_le [] (by simp);simp at this;omega
   ·rw [if_neg q]; exact h i
theorem two_b {nb : Nat -> List Int} {N : Nat} (A : List Int) (hn : ∀ v,v < N -> (nb v).length < 65) : ∀ (O C : List Int),(∀ v ∈ O,(0 <= v /\ v < (N : Int)) /\ v ∉ A /\ ∀ w ∈ nb v.toNat,w ∈ A /\ 0 <= w) -> C.length = N -> (∀ i : Nat,(C.getD i (-1) <= 1) /\ ((i : Int) ∈ A -> C.getD i (-1) <= 0)) -> ∀ i : Nat,(O.foldl (stc nb) C).getD i (-1) <= 1
 | [],C,_,_,h => fun i => (h i).1
 | v :: O,C,hO,hl,h => by
   obtain ⟨hv,hvA,hw⟩ := hO v List.mem_cons_self;have hlt : v.toNat < C.length := by omega
   have nl : (ncl C (nb v.toNat)).length < 65 := by have := ncl_len C (nb v.toNat); have := hn v.toNat (by omega); omega
   have m1 : mex (ncl C (nb v.toNat)) <= 1 := by
    apply Nat.le_of_not_lt;intro q;have := mex_low (ncl C (nb v.toNat)) (c := 1) q (by omega);obtain ⟨w,hw1,e,_⟩ := ncl_mem.1 this;obtain ⟨a1,a2⟩ := hw w hw1;have := (h w.toNat).2 (by rwa [show ((w.toNat : Nat) : Int) = w by omega]);omega
   refine two_b A hn O (stc nb C v) (fun w hw => hO w (List.mem_cons_of_mem _ hw)) (by unfold stc; rw [List.length_set,hl]) fun i => ?_;unfold stc;rw [getD_set hlt];by_cases q : v.toNat = i
   ·rw [if_pos q];exact ⟨by omega,fun r => absurd (show v ∈ A by rwa [show v = ((i : Nat) : Int) by omega]) hvA⟩
   ·rw [if_neg q]; exact h i
/- Cliques within a set of bits: what the search for a largest one keeps. -/
def Kq (A : List Nat) (S : List Nat) : Prop := S.Pairwise fun a b => a < b /\ (A.getD a 0).testBit b = true
def Inb (m : Nat) (S : List Nat) : Prop := ∀ x ∈ S,m.testBit x = true
def Sym (A : List Nat) : Prop := ∀ a b : Nat,(A.getD a 0).testBit b = (A.getD b 0).testBit a
def wo (m v : Nat) : Nat := m &&& (18446744073709551615 - 2 ^ v)
theorem wo_bit {m v : Nat} (hm : m < 18446744073709551616) (hv : v < 64) (j : Nat) : (wo m v).testBit j = (m.testBit j && decide (j ≠ v)) := by
 unfold wo;rw [Nat.testBit_and];have h2 : (2 : Nat) ^ v < 2 ^ 64 := Nat.pow_lt_pow_right (by decide) hv;have e : 18446744073709551615 - 2 ^ v = 2 ^ 64 - (2 ^ v + 1) := by omega
 rw [e,Nat.testBit_two_pow_sub_succ h2,Nat.testBit_two_pow];by_cases hj : j < 64
 ·by_cases k : v = j
  ·subst k; simp
  ·have k' : ¬ j = v := fun h => k h.symm;simp [hj,k,k']
 ·have : m.testBit j = false := Nat.testBit_lt_two_pow (Nat.lt_of_lt_of_le hm (by
   rw [show (18446744073709551616 : Nat) = 2 ^ 64 from rfl];exact Nat.pow_le_pow_right (by decide) (by omega)))
  simp [this]
theorem wo_lt {m v : Nat} (hm : m < 18446744073709551616) (hv : v < 64) (hb : m.testBit v = true) : wo m v < m := by
 have hle : wo m v <= m := Nat.and_le_left;rcases Nat.lt_or_eq_of_le hle with h | h
 ·exact h
 ·exfalso;have := wo_bit hm hv v;rw [h,hb] at this;simp at this
def Rg (A : List Nat) (size m : Nat) (best best' : Int) : Prop := best <= best' /\ (∀ S,Kq A S -> Inb m S -> (size : Int) + S.length <= best') /\ (best' = best \/ ∃ S,Kq A S /\ Inb m S /\ best' = (size : Int) + S.length)
def mxI (a b : Int) : Int := if a < b then b else a
def cnm (m : Nat) (S : List Nat) : Nat := (S.filter fun x => m.testBit x).length
def ClsI (A : List Nat) (m among free : Nat) : Prop := (∀ x,free.testBit x = true -> among.testBit x = true) /\ ∀ S,Kq A S -> cnm m S = cnm among S \/ (cnm m S = cnm among S + 1 /\ ∀ x ∈ S,free.testBit x = false)
def BdI (A : List Nat) (m0 n m : Nat) : Prop := ∀ S,Kq A S -> Inb m0 S -> S.length <= n + cnm m S
/- The number of bits of a word, by the sums of its bytes. -/
def mkB (u : Nat) : Nat -> Nat
 | 0 => 0
 | k + 1 => 256 * mkB u k + u
theorem and8 (y b M u : Nat) (hb : b < 256) (hu : u < 256) : (256 * y + b) &&& (256 * M + u) = 256 * (y &&& M) + (b &&& u) := by
 apply Nat.eq_of_testBit_eq;intro j;have h3 : b &&& u < 2 ^ 8 := Nat.lt_of_le_of_lt Nat.and_le_left hb;have e1 := Nat.testBit_two_pow_mul_add y (b := b) (i := 8) hb j;have e2 := Nat.testBit_two_pow_mul_add M (b := u) (i := 8) hu j;have e3 := Nat.testBit_two_pow_mul_add (y &&& M) (b := b &&& u) (i := 8) h3 j;rw [show (2 : Nat) ^ 8 = 256 from rfl] at e1 e2 e3;rw [Nat.testBit_and,e1,e2,e3];split
 ·rw [Nat.testBit_and]
 ·rw [Nat.testBit_and]
def fA (k x : Nat) : Nat := (x / 2 &&& mkB 85 k) + (x &&& mkB 85 k)
def fB (k x : Nat) : Nat := (x / 4 &&& mkB 51 k) + (x &&& mkB 51 k)
def fC (k x : Nat) : Nat := (x / 16 + x) &&& mkB 15 k
def bA (b : Nat) : Nat := (b / 2 &&& 85) + (b &&& 85)
def bB (b : Nat) : Nat := (b / 4 &&& 51) + (b &&& 51)
def pc8 (b : Nat) : Nat := (bB (bA b) / 16 + bB (bA b)) % 16
theorem byA : ∀ b : Fin 256,∀ r : Fin 2,(128 * r.val + b.val / 2 &&& 85) = (b.val / 2 &&& 85) /\ bA b.val < 256 := by decide +kernel
theorem byB : ∀ b : Fin 256,∀ r : Fin 4,(64 * r.val + b.val / 4 &&& 51) = (b.val / 4 &&& 51) /\ bB b.val < 256 := by decide +kernel
theorem byC : ∀ b : Fin 256,bB (bA b.val) <= 68 /\ bB (bA b.val) % 16 <= 4 /\ pc8 b.val <= 8 /\ pc8 b.val = ((List.range 8).filter fun j => b.val.testBit j).length := by decide +kernel
theorem fA_step (k y b : Nat) (hb : b < 256) : fA (k + 1) (256 * y + b) = 256 * fA k y + bA b := by
 unfold fA bA;rw [show mkB 85 (k + 1) = 256 * mkB 85 k + 85 from rfl];have e : (256 * y + b) / 2 = 256 * (y / 2) + (128 * (y % 2) + b / 2) := by omega
 have h1 := (byA ⟨b,hb⟩ ⟨y % 2,by omega⟩).1;simp only at h1;rw [e,and8 _ _ _ _ (by omega) (by omega),and8 _ _ _ _ hb (by omega),h1];omega
theorem fB_step (k y b : Nat) (hb : b < 256) : fB (k + 1) (256 * y + b) = 256 * fB k y + bB b := by
 unfold fB bB;rw [show mkB 51 (k + 1) = 256 * mkB 51 k + 51 from rfl];have e : (256 * y + b) / 4 = 256 * (y / 4) + (64 * (y % 4) + b / 4) := by omega
 have h1 := (byB ⟨b,hb⟩ ⟨y % 4,by omega⟩).1;simp only at h1;rw [e,and8 _ _ _ _ (by omega) (by omega),and8 _ _ _ _ hb (by omega),h1];omega
theorem fC_step (k y b : Nat) (hb : b <= 68) (hy : y % 16 <= 4) : fC (k + 1) (256 * y + b) = 256 * fC k y + (b / 16 + b) % 16 := by
 unfold fC;rw [show mkB 15 (k + 1) = 256 * mkB 15 k + 15 from rfl];have e : (256 * y + b) / 16 + (256 * y + b) = 256 * (y / 16 + y) + (16 * (y % 16) + b / 16 + b) := by omega
 have e2 : (16 * (y % 16) + b / 16 + b) &&& 15 = (b / 16 + b) % 16 := by
  rw [show (15 : Nat) = 2 ^ 4 - 1 from rfl,Nat.and_two_pow_sub_one_eq_mod];omega
 rw [e,and8 _ _ _ _ (by omega) (by omega),e2]
def pcW : Nat -> Nat -> Nat
 | 0,_ => 0
 | k + 1,x => 256 * pcW k (x / 256) + pc8 (x % 256)
theorem fABC : ∀ k x : Nat,fB k (fA k x) % 16 <= 4 /\ fC k (fB k (fA k x)) = pcW k x /\ fA k x < 256 ^ k /\ fB k (fA k x) < 256 ^ k /\ fB k (fA k x) / 16 + fB k (fA k x) < 256 ^ k
 | 0,x => by
   have h1 : ∀ y,fA 0 y = 0 := fun y => by simp [fA,mkB]
   have h2 : ∀ y,fB 0 y = 0 := fun y => by simp [fB,mkB]
   have h3 : ∀ y,fC 0 y = 0 := fun y => by simp [fC,mkB]
   rw [h1,h2,h3];simp [pcW]
 | k + 1,x => by
   obtain ⟨i1,i2,i3,i4,i5⟩ := fABC k (x / 256);have hb : x % 256 < 256 := Nat.mod_lt _ (by omega);have ex : 256 * (x / 256) + x % 256 = x := Nat.div_add_mod _ _;have a1 := fA_step k (x / 256) (x % 256) hb;rw [ex] at a1;have hA := (byA ⟨x % 256,hb⟩ 0).2;obtain ⟨c1,c2,c3,_⟩ := byC ⟨x % 256,hb⟩;simp only at hA c1 c2 c3;have c4 : bB (bA (x % 256)) % 16 <= 4 := c2;have b1 := fB_step k (fA k (x / 256)) (bA (x % 256)) hA;rw [<- a1] at b1;have d1 := fC_step k (fB k (fA k (x / 256))) (bB (bA (x % 256))) c1 i1;rw [<- b1] at d1;have e1 : 256 ^ (k + 1) = 256 * 256 ^ k := by rw [Nat.pow_succ,Nat.mul_comm]
   refine ⟨by rw [b1,show (256 : Nat) = 16 * 16 from rfl,Nat.mul_assoc,Nat.mul_add_mod]; exact c4,by rw [d1,i2]; rfl,by rw [a1,e1]; omega,by rw [b1,e1]; omega,by rw [b1,e1]; omega⟩
theorem bits_step (k y b : Nat) (hb : b < 256) : ((List.range (8 * (k + 1))).filter fun j => (256 * y + b).testBit j).length = ((List.range 8).filter fun j => b.testBit j).length + ((List.range (8 * k)).filter fun j => y.testBit j).length := by
 rw [show 8 * (k + 1) = 8 + 8 * k by omega,List.range_add,List.filter_append,List.length_append];have e1 : ∀ j,(256 * y + b).testBit j = if j < 8 then b.testBit j else y.testBit (j - 8) := Nat.testBit_two_pow_mul_add y (b := b) (i := 8) hb;congr 1
 ·congr 1;refine List.filter_congr fun j hj => ?_;rw [e1,if_pos (List.mem_range.1 hj)]
 ·rw [List.filter_map,List.length_map];congr 1;refine List.filter_congr fun j _ => ?_;simp only [Function.comp];rw [e1,if_neg (by omega),Nat.add_sub_cancel_left]
def pcn (m : Nat) : Nat := ((List.range 64).filter fun j => m.testBit j).length
theorem pcn_bytes (m : Nat) (h : m < 2 ^ 64) : pcn m = pc8 (m % 256) + (pc8 (m / 256 % 256) + (pc8 (m / 256 / 256 % 256) + (pc8 (m / 256 / 256 / 256 % 256) + (pc8 (m / 256 / 256 / 256 / 256 % 256) + (pc8 (m / 256 / 256 / 256 / 256 / 256 % 256) + (pc8 (m / 256 / 256 / 256 / 256 / 256 / 256 % 256) + pc8 (m / 256 / 256 / 256 / 256 / 256 / 256 / 256 % 256))))))) := by
 have st : ∀ k x,((List.range (8 * (k + 1))).filter fun j => x.testBit j).length = pc8 (x % 256) + ((List.range (8 * k)).filter fun j => (x / 256).testBit j).length := by
  intro k x;have hb : x % 256 < 256 := Nat.mod_lt _ (by omega);have := bits_step k (x / 256) (x % 256) hb;rw [Nat.div_add_mod] at this;rw [this,(byC ⟨x % 256,hb⟩).2.2.2]
 unfold pcn;rw [show (64 : Nat) = 8 * (7 + 1) from rfl,st,show (8 * 7 : Nat) = 8 * (6 + 1) from rfl,st,show (8 * 6 : Nat) = 8 * (5 + 1) from rfl,st,show (8 * 5 : Nat) = 8 * (4 + 1) from rfl,st,show (8 * 4 : Nat) = 8 * (3 + 1) from rfl,st,show (8 * 3 : Nat) = 8 * (2 + 1) from rfl,st,show (8 * 2 : Nat) = 8 * (1 + 1) from rfl,st,show (8 * 1 : Nat) = 8 * (0 + 1) from rfl,st];simp
theorem u64_id {n : Nat} (h : n < 2 ^ 64) : IntKind.u64.wrap (n : Int) = n := by
 rw [IntKind.wrap_u64];omega
theorem i64_and_nat (a b : Nat) (ha : a < 9223372036854775808) (hb : b < 9223372036854775808) : bits .and .i64 (a : Int) (b : Int) = ((a &&& b : Nat) : Int) := by
 have hx : a &&& b < 2 ^ 63 := Nat.and_lt_two_pow _ (by omega);show IntKind.i64.wrap ((BitVec.ofInt 64 (a : Int) &&& BitVec.ofInt 64 (b : Int)).toNat : Int) = _;rw [BitVec.toNat_and,ofInt_u64 a (by omega),ofInt_u64 b (by omega),IntKind.wrap_i64];omega
theorem fdivN (m n : Nat) (hn : 0 < n) : (m : Int).fdiv (n : Int) = ((m / n : Nat) : Int) := by
 rw [Int.fdiv_eq_ediv_of_nonneg _ (by omega)]; rfl
def pxA (x : Int) : Int := IntKind.u64.wrap (bits .and .u64 (x.fdiv 2) 6148914691236517205 + bits .and .u64 x 6148914691236517205)
def pxB (x : Int) : Int := IntKind.u64.wrap (bits .and .u64 (x.fdiv 4) 3689348814741910323 + bits .and .u64 x 3689348814741910323)
def pxC (x : Int) : Int := bits .and .u64 (IntKind.u64.wrap (x.fdiv 16 + x)) 1085102592571150095
def pxD (n : Int) (x : Int) : Int := IntKind.u64.wrap (x + x.fdiv n)
def pxE (x : Int) : Int := bits .and .i64 (IntKind.i64.wrap (pxD 4294967296 (pxD 65536 (pxD 256 (pxC (pxB (pxA x))))))) 127
theorem pxA_eq (m : Nat) (h : m < 2 ^ 64) (g : fA 8 m < 2 ^ 64) : pxA (m : Int) = (fA 8 m : Nat) := by
 have k1 : mkB 85 8 = 6148914691236517205 := by decide
 unfold fA at g ⊢;rw [k1] at g ⊢;unfold pxA;have a1 := u64_and_nat (m / 2) 6148914691236517205 (by omega) (by decide);have a2 := u64_and_nat m 6148914691236517205 (by omega) (by decide);have d := fdivN m 2 (by decide);generalize m / 2 &&& 6148914691236517205 = p at *;generalize m &&& 6148914691236517205 = q at *;have d' : (m : Int).fdiv 2 = ((m / 2 : Nat) : Int) := d;have a1' : bits .and .u64 ((m / 2 : Nat) : Int) 6148914691236517205 = (p : Int) := a1;have a2' : bits .and .u64 (m : Int) 6148914691236517205 = (q : Int) := a2;rw [d',a1',a2',<- Int.natCast_add,u64_id g]
theorem pxB_eq (a : Nat) (h : a < 2 ^ 64) (g : fB 8 a < 2 ^ 64) : pxB (a : Int) = (fB 8 a : Nat) := by
 have k2 : mkB 51 8 = 3689348814741910323 := by decide
 unfold fB at g ⊢;rw [k2] at g ⊢;unfold pxB;have a1 := u64_and_nat (a / 4) 3689348814741910323 (by omega) (by decide);have a2 := u64_and_nat a 3689348814741910323 (by omega) (by decide);have d := fdivN a 4 (by decide);generalize a / 4 &&& 3689348814741910323 = p at *;generalize a &&& 3689348814741910323 = q at *;have d' : (a : Int).fdiv 4 = ((a / 4 : Nat) : Int) := d;have a1' : bits .and .u64 ((a / 4 : Nat) : Int) 3689348814741910323 = (p : Int) := a1;have a2' : bits .and .u64 (a : Int) 3689348814741910323 = (q : Int) := a2;rw [d',a1',a2',<- Int.natCast_add,u64_id g]
theorem pxC_eq (b : Nat) (g : b / 16 + b < 2 ^ 64) : pxC (b : Int) = (fC 8 b : Nat) := by
 have k3 : mkB 15 8 = 1085102592571150095 := by decide
 unfold fC;rw [k3];unfold pxC;have d := fdivN b 16 (by decide);have d' : (b : Int).fdiv 16 = ((b / 16 : Nat) : Int) := d;have a1 := u64_and_nat (b / 16 + b) 1085102592571150095 (by omega) (by decide);generalize (b / 16 + b) &&& 1085102592571150095 = p at *;have a1' : bits .and .u64 ((b / 16 + b : Nat) : Int) 1085102592571150095 = (p : Int) := a1;rw [d',<- Int.natCast_add,u64_id g,a1']
theorem pxD_eq (n x : Nat) (hn : 0 < n) (g : x + x / n < 2 ^ 64) : pxD (n : Int) (x : Int) = ((x + x / n : Nat) : Int) := by
 unfold pxD;rw [fdivN x n hn,<- Int.natCast_add,u64_id g]
theorem bytes8 {c0 c1 c2 c3 c4 c5 c6 c7 x y z : Nat} (h0 : c0 <= 8) (h1 : c1 <= 8) (h2 : c2 <= 8) (h3 : c3 <= 8) (h4 : c4 <= 8) (h5 : c5 <= 8) (h6 : c6 <= 8) (h7 : c7 <= 8)
  (ex : x = 256 * (256 * (256 * (256 * (256 * (256 * (256 * c7 + c6) + c5) + c4) + c3) + c2) + c1) + c0) (ey : y = x + x / 256) (ez : z = y + y / 65536) :
  x + x / 256 < 2 ^ 62 /\ y + y / 65536 < 2 ^ 62 /\ z + z / 4294967296 < 2 ^ 62 /\ (z + z / 4294967296) % 128 = c0 + (c1 + (c2 + (c3 + (c4 + (c5 + (c6 + c7)))))) := by
 have ey2 : y = 256 * (256 * (256 * (256 * (256 * (256 * (256 * c7 + (c6 + c7)) + (c5 + c6)) + (c4 + c5)) + (c3 + c4)) + (c2 + c3)) + (c1 + c2)) + (c0 + c1) := by omega
 have ez2 : z = 256 * (256 * (256 * (256 * (256 * (256 * (256 * c7 + (c6 + c7)) + (c5 + c6 + c7)) + (c4 + c5 + (c6 + c7))) + (c3 + c4 + (c5 + c6))) + (c2 + c3 + (c4 + c5))) + (c1 + c2 + (c3 + c4))) + (c0 + c1 + (c2 + c3)) := by
  clear ey ex;omega
 refine ⟨?_,?_,?_,?_⟩
 ·clear ez2 ez ey2 ey; omega
 ·clear ez2 ez ey ex; omega
 ·clear ez ey2 ey ex; omega
 ·clear ez ey2 ey ex;have eq : z / 4294967296 = 256 * (256 * (256 * c7 + (c6 + c7)) + (c5 + c6 + c7)) + (c4 + c5 + (c6 + c7)) := by omega
  rw [eq];obtain ⟨A,eA⟩ : ∃ A,z = 256 * A + (c0 + c1 + (c2 + c3)) := ⟨_,ez2⟩;rw [eA];clear eA ez2 eq;omega
theorem pxE_all (m : Nat) (h : m < 2 ^ 64) : pxE (m : Int) = (pcn m : Int) := by
 obtain ⟨g1,g2,g3,g4,g5⟩ := fABC 8 m;have e256 : (256 : Nat) ^ 8 = 2 ^ 64 := by decide
 rw [e256] at g3 g4 g5;have b8 : ∀ x,pc8 (x % 256) <= 8 := fun x => (byC ⟨x % 256,Nat.mod_lt _ (by decide)⟩).2.2.1;have ew : pcW 8 m = 256 * (256 * (256 * (256 * (256 * (256 * (256 * (256 * 0 + pc8 (m / 256 / 256 / 256 / 256 / 256 / 256 / 256 % 256)) + pc8 (m / 256 / 256 / 256 / 256 / 256 / 256 % 256)) + pc8 (m / 256 / 256 / 256 / 256 / 256 % 256)) + pc8 (m / 256 / 256 / 256 / 256 % 256)) + pc8 (m / 256 / 256 / 256 % 256)) + pc8 (m / 256 / 256 % 256)) + pc8 (m / 256 % 256)) + pc8 (m % 256) := rfl;rw [Nat.mul_zero,Nat.zero_add] at ew;obtain ⟨t1,t2,t3,t4⟩ := bytes8 (b8 m) (b8 (m / 256)) (b8 (m / 256 / 256)) (b8 (m / 256 / 256 / 256)) (b8 (m / 256 / 256 / 256 / 256)) (b8 (m / 256 / 256 / 256 / 256 / 256)) (b8 (m / 256 / 256 / 256 / 256 / 256 / 256)) (b8 (m / 256 / 256 / 256 / 256 / 256 / 256 / 256)) ew rfl rfl;have t64 : (2 : Nat) ^ 62 < 2 ^ 64 := by decide
 unfold pxE;rw [pxA_eq m h g3,pxB_eq _ g3 g4,pxC_eq _ g5,g2,pcn_bytes m h,<- t4];generalize pcW 8 m = x at *;have s1 := pxD_eq 256 x (by decide) (Nat.lt_trans t1 t64);have s2 := pxD_eq 65536 (x + x / 256) (by decide) (Nat.lt_trans t2 t64);have s3 := pxD_eq 4294967296 (x + x / 256 + (x + x / 256) / 65536) (by decide) (Nat.lt_trans t3 t64);have s1' : pxD 256 (x : Int) = _ := s1;have s2' : pxD 65536 ((x + x / 256 : Nat) : Int) = _ := s2;have s3' : pxD 4294967296 ((x + x / 256 + (x + x / 256) / 65536 : Nat) : Int) = _ := s3;rw [s1',s2',s3'];generalize x + x / 256 + (x + x / 256) / 65536 + (x + x / 256 + (x + x / 256) / 65536) / 4294967296 = f at *
 have w : IntKind.i64.wrap (f : Int) = (f : Int) := by
  rw [IntKind.wrap_i64]; omega
 have a1 := i64_and_nat f 127 (by omega) (by decide);have a1' : bits .and .i64 (f : Int) 127 = ((f &&& 127 : Nat) : Int) := a1;rw [w,a1',show (127 : Nat) = 2 ^ 7 - 1 from rfl,Nat.and_two_pow_sub_one_eq_mod]
/- Peeling a graph node by node, in plain words: buckets of nodes by degree. -/
theorem getDset (D : List Nat) (i j x : Nat) (h : i < D.length) : (D.set i x).getD j 0 = if j = i then x else D.getD j 0 := by
 rw [List.getD_eq_getElem?_getD,List.getElem?_set,List.getD_eq_getElem?_getD];by_cases e : i = j
 ·subst e; rw [if_pos rfl,if_pos h,if_pos rfl]; rfl
 ·rw [if_neg e,if_neg fun q => e q.symm]
def dgM (A : List Nat) (m v : Nat) : Nat := pcn (m &&& A.getD v 0)
structure Pck (N m : Nat) (D B : List Nat) : Prop where
 lenD : D.length = N
 lenB : B.length = 64
 sm : ∀ d,B.getD d 0 < 18446744073709551616
 bit : ∀ d j,d < 64 -> (B.getD d 0).testBit j = (m.testBit j && decide (D.getD j 0 = d))
 rng : ∀ j,m.testBit j = true -> j < N
 deg : ∀ v,D.getD v 0 < 64
def buA (B : List Nat) (w e : Nat) : List Nat := B.set (e + 1) (wo (B.getD (e + 1) 0) w)
def buB (B : List Nat) (w e : Nat) : List Nat := (buA B w e).set e ((buA B w e).getD e 0 ||| 2 ^ w)
theorem pck_dec {N m : Nat} {D B : List Nat} (h : Pck N m D B) (hN : N <= 64) {w e : Nat} (hw : m.testBit w = true) (hd : D.getD w 0 = e + 1) : Pck N m (D.set w e) (buB B w e) := by
 have hwN := h.rng w hw;have he : e + 1 < 64 := by have := h.deg w; omega
 have hl : e + 1 < B.length := by rw [h.lenB]; exact he
 have lA : (buA B w e).length = 64 := by unfold buA; rw [List.length_set,h.lenB]
 have hp : 2 ^ w < 18446744073709551616 := Nat.pow_lt_pow_right (by decide) (by omega : w < 64);have gA : ∀ d,(buA B w e).getD d 0 = if d = e + 1 then wo (B.getD (e + 1) 0) w else B.getD d 0 := fun d => getDset _ _ _ _ hl
 have gB : ∀ d,(buB B w e).getD d 0 = if d = e then B.getD e 0 ||| 2 ^ w else if d = e + 1 then wo (B.getD (e + 1) 0) w else B.getD d 0 := fun d => by
  have g0 := gA e;rw [if_neg (by omega)] at g0;unfold buB;rw [getDset _ _ _ _ (by rw [lA]; omega),g0,gA]
 have gD : ∀ j,(D.set w e).getD j 0 = if j = w then e else D.getD j 0 := fun j => getDset _ _ _ _ (by rw [h.lenD]; exact hwN);refine ⟨by rw [List.length_set,h.lenD],by unfold buB; rw [List.length_set,lA],fun d => ?_,fun d j hd64 => ?_,h.rng,fun v => ?_⟩
 ·rw [gB];split
  ·exact Nat.or_lt_two_pow (n := 64) (h.sm e) hp
  ·split
   ·exact Nat.lt_of_le_of_lt Nat.and_le_left (h.sm _)
   ·exact h.sm d
 ·rw [gB,gD];by_cases q : d = e
  ·subst q;rw [if_pos rfl,Nat.testBit_or,Nat.testBit_two_pow,h.bit d j (by omega)];by_cases z : j = w
   ·subst z;rw [if_pos rfl,hw]; simp
   ·rw [if_neg z];have z' : ¬ w = j := fun k => z k.symm;simp [z']
  ·rw [if_neg q];by_cases q2 : d = e + 1
   ·subst q2;rw [if_pos rfl,wo_bit (h.sm _) (by omega),h.bit _ j he];by_cases z : j = w
    ·subst z;rw [if_pos rfl];simp
    ·rw [if_neg z];simp [z]
   ·rw [if_neg q2,h.bit d j hd64];by_cases z : j = w
    ·subst z;rw [if_pos rfl,hd];have e1 : ¬ e + 1 = d := by omega
     have e2 : ¬ e = d := by omega
     simp [e1,e2]
    ·rw [if_neg z]
 ·rw [gD];split
  ·omega
  ·exact h.deg v
def dcS (s : List Nat × List Nat) (w : Nat) : List Nat × List Nat := (s.1.set w (s.1.getD w 0 - 1),buB s.2 w (s.1.getD w 0 - 1))
theorem pck_decs {N m : Nat} (hN : N <= 64) : ∀ (W : List Nat) (D B : List Nat),Pck N m D B -> W.Nodup -> (∀ w ∈ W,m.testBit w = true /\ 0 < D.getD w 0) -> Pck N m (W.foldl dcS (D,B)).1 (W.foldl dcS (D,B)).2 /\ ∀ j,(W.foldl dcS (D,B)).1.getD j 0 = D.getD j 0 - (if j ∈ W then 1 else 0)
 | [],D,B,h,_,_ => ⟨h,fun j => by simp⟩
 | w :: W,D,B,h,hn,hw => by
   obtain ⟨n1,n2⟩ := List.nodup_cons.1 hn;obtain ⟨w1,w2⟩ := hw w List.mem_cons_self;have h1 := pck_dec h hN w1 (e := D.getD w 0 - 1) (by omega);have gD : ∀ j,(D.set w (D.getD w 0 - 1)).getD j 0 = if j = w then D.getD w 0 - 1 else D.getD j 0 := fun j => getDset _ _ _ _ (by rw [h.lenD]; exact h.rng w w1)
   obtain ⟨a,b⟩ := pck_decs hN W _ _ h1 n2 fun x hx => by
    have hne : x ≠ w := fun q => n1 (q ▸ hx);rw [gD,if_neg hne];exact hw x (List.mem_cons_of_mem _ hx)
   refine ⟨a,fun j => ?_⟩;rw [List.foldl_cons];show (W.foldl dcS (dcS (D,B) w)).1.getD j 0 = _;have := b j;unfold dcS at this ⊢;rw [this,gD];by_cases q : j = w
   ·subst q;rw [if_pos rfl,if_neg n1,if_pos List.mem_cons_self]; rfl
   ·rw [if_neg q];have : (j ∈ w :: W) ↔ j ∈ W := by simp [q]
    simp only [this]
theorem pcn_wo {m a v : Nat} (hm : m < 18446744073709551616) (hv : v < 64) : pcn (wo m v &&& a) = pcn (m &&& a) - (if m.testBit v = true /\ a.testBit v = true then 1 else 0) := by
 unfold pcn
 have e : ((List.range 64).filter fun j => (wo m v &&& a).testBit j) = ((List.range 64).filter fun j => (m &&& a).testBit j).erase v := by
  rw [List.Nodup.erase_eq_filter (List.nodup_range.filter _),List.filter_filter];congr 1;funext j;rw [Nat.testBit_and,Nat.testBit_and,wo_bit hm hv];by_cases q : j = v
  ·subst q; simp
  ·have : (j != v) = true := by simp [q]
   rw [this];simp [q]
 rw [e];by_cases q : m.testBit v = true /\ a.testBit v = true
 ·rw [if_pos q,List.length_erase_of_mem (List.mem_filter.2 ⟨List.mem_range.2 hv,by rw [Nat.testBit_and,q.1,q.2]; rfl⟩)]
 ·rw [if_neg q,List.erase_of_not_mem]
  ·rfl
  ·intro hm;have := (List.mem_filter.1 hm).2;rw [Nat.testBit_and] at this;simp only [Bool.and_eq_true] at this;exact q this
theorem pcn_pos {x j : Nat} (hj : j < 64) (h : x.testBit j = true) : 0 < pcn x := List.length_pos_of_mem (List.mem_filter.2 ⟨List.mem_range.2 hj,h⟩)
def Pick (A : List Nat) (m v d : Nat) : Prop := v < 64 /\ m.testBit v = true /\ dgM A m v = d /\ ∀ j,m.testBit j = true -> d < dgM A m j \/ (d = dgM A m j /\ v <= j)
inductive PeelR (A : List Nat) : Nat -> List Nat -> List Nat -> Prop
 | nil : PeelR A 0 [] []
 | cons {m v d : Nat} {o ds : List Nat} : Pick A m v d -> PeelR A (wo m v) o ds -> PeelR A m (v :: o) (d :: ds)
def pnum : List Nat -> List Nat -> Nat -> List Int -> List Int
 | v :: o,d :: ds,k,L => pnum o ds (max k d) (L.set v ((max k d : Nat) : Int))
 | _,_,_,L => L
structure Pst (A : List Nat) (N m : Nat) (D B : List Nat) : Prop where
 pck : Pck N m D B
 lt : m < 18446744073709551616
 deg : ∀ j,m.testBit j = true -> D.getD j 0 = dgM A m j
theorem pst_first {A : List Nat} {N m : Nat} {D B : List Nat} (h : Pst A N m D B) (hN : N <= 64) (h0 : m ≠ 0) : ∃ d,d < 64 /\ B.getD d 0 ≠ 0 /\ ∀ e,e < d -> B.getD e 0 = 0 := by
 obtain ⟨t1,_⟩ := tz_bit h0 h.lt;have hD := h.pck.deg (tz m)
 have hb : B.getD (D.getD (tz m) 0) 0 ≠ 0 := fun q => by
  have := h.pck.bit (D.getD (tz m) 0) (tz m) hD;rw [q,t1] at this;simp at this
 have key : ∀ n,n < 64 -> B.getD n 0 ≠ 0 -> ∃ d,d < 64 /\ B.getD d 0 ≠ 0 /\ ∀ e,e < d -> B.getD e 0 = 0 := by
  intro n
  induction n using Nat.strongRecOn with
  | ind n ih =>
    intro h1 h2;by_cases q : ∃ e,e < n /\ B.getD e 0 ≠ 0
    ·obtain ⟨e,e1,e2⟩ := q;exact ih e e1 (by omega) e2
    ·exact ⟨n,h1,h2,fun e he => Classical.byContradiction fun k => q ⟨e,he,k⟩⟩
 exact key _ hD hb
theorem pst_pick {A : List Nat} {N m : Nat} {D B : List Nat} (h : Pst A N m D B) (hN : N <= 64) {d : Nat} (hd : d < 64) (hb : B.getD d 0 ≠ 0) (hz : ∀ e,e < d -> B.getD e 0 = 0) : Pick A m (tz (B.getD d 0)) d /\ tz (B.getD d 0) < N /\ D.getD (tz (B.getD d 0)) 0 = d := by
 obtain ⟨t1,t2⟩ := tz_bit hb (h.pck.sm d);have hbit := h.pck.bit d (tz (B.getD d 0)) hd;rw [t1] at hbit;have hbit := hbit.symm;simp only [Bool.and_eq_true,decide_eq_true_eq] at hbit;have hv := h.pck.rng _ hbit.1;refine ⟨⟨by omega,hbit.1,by rw [<- h.deg _ hbit.1]; exact hbit.2,fun j hj => ?_⟩,hv,hbit.2⟩;rw [<- h.deg j hj];have hj64 := h.pck.deg j;have b1 := h.pck.bit (D.getD j 0) j hj64;rw [hj] at b1;simp only [Bool.true_and,decide_true] at b1;by_cases q : D.getD j 0 < d
 ·rw [hz _ q] at b1; simp at b1
 ·by_cases q2 : D.getD j 0 = d
  ·right;refine ⟨q2.symm,?_⟩;apply Classical.byContradiction;intro k;have := t2 j (by omega);rw [q2] at b1;rw [b1] at this; cases this
  ·left; omega
theorem pck_out {N m : Nat} {D B : List Nat} (h : Pck N m D B) (hm : m < 18446744073709551616) {v : Nat} (hv : v < 64) {d : Nat} (hd : d < 64) (hD : D.getD v 0 = d) : Pck N (wo m v) D (B.set d (wo (B.getD d 0) v)) := by
 have gB : ∀ e,(B.set d (wo (B.getD d 0) v)).getD e 0 = if e = d then wo (B.getD d 0) v else B.getD e 0 := fun e => getDset _ _ _ _ (by rw [h.lenB]; exact hd);refine ⟨h.lenD,by rw [List.length_set,h.lenB],fun e => ?_,fun e j he => ?_,fun j hj => ?_,h.deg⟩
 ·rw [gB];split
  ·exact Nat.lt_of_le_of_lt Nat.and_le_left (h.sm _)
  ·exact h.sm e
 ·rw [gB,wo_bit hm hv];by_cases q : e = d
  ·subst q;rw [if_pos rfl,wo_bit (h.sm _) hv,h.bit _ j hd];cases m.testBit j <;> simp [Bool.and_comm]
  ·rw [if_neg q,h.bit e j he];by_cases z : j = v
   ·subst z;rw [hD];have : ¬ d = e := fun k => q k.symm;simp [this]
   ·simp [z]
 ·rw [wo_bit hm hv] at hj;simp only [Bool.and_eq_true] at hj;exact h.rng j hj.1
def SymA (A : List Nat) : Prop := ∀ a b : Nat,(A.getD a 0).testBit b = (A.getD b 0).testBit a
theorem pst_step {A : List Nat} {N m : Nat} {D B : List Nat} (hS : SymA A) (hI : ∀ a,(A.getD a 0).testBit a = false) (h : Pst A N m D B) (hN : N <= 64) {d v : Nat} (hd : d < 64) (hv : v < N) (hb : m.testBit v = true) (hD : D.getD v 0 = d) (W : List Nat) (hn : W.Nodup) (hW : ∀ w,w ∈ W ↔ (A.getD v 0 &&& wo m v).testBit w = true) :
  Pst A N (wo m v) (W.foldl dcS (D,B.set d (wo (B.getD d 0) v))).1 (W.foldl dcS (D,B.set d (wo (B.getD d 0) v))).2 := by
 have hv64 : v < 64 := by omega
 have h1 := pck_out h.pck h.lt hv64 hd hD
 have hw : ∀ w ∈ W,(wo m v).testBit w = true /\ 0 < D.getD w 0 := fun w hw => by
  have := (hW w).1 hw;rw [Nat.testBit_and,wo_bit h.lt hv64] at this;simp only [Bool.and_eq_true,decide_eq_true_eq] at this;obtain ⟨q1,q2,q3⟩ := this;refine ⟨by rw [wo_bit h.lt hv64,q2]; simp [q3],?_⟩;rw [h.deg w q2];exact pcn_pos hv64 (by rw [Nat.testBit_and,hb,hS w v,q1]; rfl)
 obtain ⟨a,b⟩ := pck_decs hN W D _ h1 hn hw;refine ⟨a,Nat.lt_of_le_of_lt Nat.and_le_left h.lt,fun j hj => ?_⟩;rw [b];have hj2 := hj;rw [wo_bit h.lt hv64] at hj2;simp only [Bool.and_eq_true,decide_eq_true_eq] at hj2;rw [h.deg j hj2.1];unfold dgM;rw [pcn_wo h.lt hv64];congr 1
 have : (j ∈ W) ↔ (m.testBit v = true /\ (A.getD j 0).testBit v = true) := by
  rw [hW,Nat.testBit_and,hj,hS j v,hb];simp
 simp only [this]
theorem peel_mem {A : List Nat} : ∀ {m : Nat} {o ds : List Nat},m < 18446744073709551616 -> PeelR A m o ds -> (∀ j,j ∈ o ↔ m.testBit j = true) /\ o.Nodup /\ ds.length = o.length
 | _,_,_,_,.nil => ⟨fun j => by simp,List.nodup_nil,rfl⟩
 | m,_,_,hm,.cons (v := v) hp hr => by
   obtain ⟨a,b,c⟩ := peel_mem (m := wo m v) (Nat.lt_of_le_of_lt Nat.and_le_left hm) hr;refine ⟨fun j => ?_,List.nodup_cons.2 ⟨fun q => ?_,b⟩,by simp [c]⟩
   ·rw [List.mem_cons,a,wo_bit hm hp.1];by_cases q : j = v
    ·subst q; simp [hp.2.1]
    ·simp [q]
   ·rw [a,wo_bit hm hp.1] at q;simp at q
end Go.BmP
