/- What slices.Equal returns (E01's head). -/
import Derived.Test.YtppmiehidnpgbaaGreatDoorUseM
import Derived.Test.YtppmiehidnpgbaaGreatDoorGrfP
import Derived.Test.YtppmiehidnpgbaaGreatDoorR02d
import Derived.Test.YtppmiehidnpgbaaGreatDoorCfS
import Derived.Test.YtppmiehidnpgbaaGreatDoorRunX
import Derived.KernelRfl
import Derived.Test.YtppmiehidnpgbaaGreatDoorX11
import Derived.Test.YtppmiehidnpgbaaGreatDoorR02k
import Derived.Test.YtppmiehidnpgbaaGreatDoorK05
set_option linter.unusedSimpArgs false
set_option linter.unusedVariables false
set_option maxRecDepth 100000
set_option maxHeartbeats 4000000
open List renaming all_eq_true → lr, drop_eq_getElem_cons → bk, drop_length → bU, drop_zero → cS, filterMap_cons → Vd, filterMap_nil → WV, getD_eq_getElem?_getD → aI, getElem?_eq_getElem → aB, getElem_mem → dN, length_map → gF, length_set → cJ, map_set → Vb, mem_range → di, range → cH, replicate → aF, set_eq_take_append_cons_drop → Ae, take_of_length_le → du
open Nat renaming le_of_ble_eq_true → aD
open Option.some renaming inj → dn
namespace Go.BmP
open Go.Am Go.Bm
theorem Od (a b : List Int) (hl : a.length = b.length) (ha : a.length < 4294967295) : ∀ (k i : Nat),i + k = a.length -> aW au 0 (.loop Nu) ⟨[(0,.list 1 (ints a)),(1,.list 1 (ints b)),(12,.int .i64 a.length),(13,.int .i64 i)],[]⟩ =
  if a.drop i = b.drop i then some (.exit 0,⟨[(0,.list 1 (ints a)),(1,.list 1 (ints b)),(12,.int .i64 a.length),(13,.int .i64 a.length),(14,.bool false)],[]⟩) else some (.ret,⟨[(4,.bool false)],[]⟩)
 | 0,i,hi => by
   obtain rfl : i = a.length := by omega
   rw [bU,hl,bU,if_pos rfl];exact bw (by unfold Nu; simp [E4,E3,E2,E0,EZ,EY,EX,EW,EV,EU,aN,aq,aM,bp,bV,an,ak,aj,af,aE,aL,bu,bq])
 | k + 1,i,hi => by
   have bL : i < a.length := by omega
   have hltb : i < b.length := by omega
   have h1 : (i : Int) < a.length := by omega
   have h1b : (i : Int) < b.length := by omega
   have hw := eT (i := i) (by omega);have ih := Od a b hl ha k (i + 1) (by omega);have i1 := kQ (k := .i64) (i := (i : Int)) (n := a.length) (by omega) h1;have i2 := kQ (k := .i64) (i := (i : Int)) (n := b.length) (by omega) h1b;rw [bk bL,bk hltb];simp only [List.cons.injEq];by_cases e : a[i] = b[i]
   ·have : (a[i] = b[i] /\ a.drop (i + 1) = b.drop (i + 1)) = (a.drop (i + 1) = b.drop (i + 1)) := by simp [e]
    simp only [this];rw [<- ih];exact aY (by unfold Nu; simp [E4,E3,E2,E0,EZ,EY,EX,EW,EV,EU,h1,h1b,bL,hltb,hw,i1,i2,e,aN,aq,aM,bp,bV,an,ak,aj,af,aE,aL,bu,bq])
   ·rw [if_neg (fun k => e k.1)];exact dK (by unfold Nu; simp [E4,E3,E2,E0,EZ,EY,EX,EW,EV,EU,h1,h1b,bL,hltb,hw,i1,i2,e,aN,aq,aM,bp,bV,an,ak,aj,af,aE,aL,bu,bq])
theorem ab4 (a b : List Int) (ha : a.length < 4294967295) : br au nQA [.list 1 (ints a),.list 1 (ints b)] [] = some (.bool (decide (a = b)),[]) := by
 rw [aV oQA sQA (aD rfl)];unfold qQA cQA;by_cases hl : a.length = b.length
 ·have lp := Od a b hl ha a.length 0 (by omega);rw [cS,cS,fY] at lp;have Jg : (a.length : Int) = b.length := by omega
  by_cases e : a = b
  ·rw [if_pos e] at lp;subst e;simp [E4,E3,E2,E0,EZ,EY,EX,EW,EV,EU,lp,aN,aq,aM,bp,bV,an,ak,aj,af,aE,aL,bu,bq]
  ·rw [if_neg e] at lp;rw [decide_eq_false e];rw [Jg] at lp;simp [E4,E3,E2,E0,EZ,EY,EX,EW,EV,EU,lp,Jg,aN,aq,aM,bp,bV,an,ak,aj,af,aE,aL,bu,bq]
 ·have Jg : ¬ (a.length : Int) = b.length := by omega
  have e : ¬ a = b := fun k => hl (by rw [k]);rw [decide_eq_false e];simp [E4,E3,E2,E0,EZ,EY,EX,EW,EV,EU,Jg,aN,aq,aM,bp,bV,an,ak,aj,af,aE,aL,bu,bq]
/- Greedy colourings, in plain words: they are proper, and two colours are enough if one side comes first. -/
def Cq (L : List Int) : List Bool := (cH 65).map fun (c : Nat) => decide ((c : Int) ∈ L)
def OT (L : List Int) : Nat := (Cq L).findIdx fun b => !b
theorem Yd : ∀ (k : Nat) (L : List Int),(∀ c : Nat,c < k -> (c : Int) ∈ L) -> k <= L.length
 | 0,_,_ => Nat.zero_le _
 | k + 1,L,h => by
   have hk := h k (by omega);have := Yd k (L.erase (k : Int)) fun c hc => (List.mem_erase_of_ne (by omega)).2 (h c (by omega));rw [List.length_erase_of_mem hk] at this;have := List.length_pos_of_mem hk;omega
theorem oZ (L : List Int) : (Cq L).length = 65 := by unfold Cq; rw [gF,List.length_range]
theorem vY (L : List Int) (c : Nat) (h : c < (Cq L).length) : (Cq L)[c] = decide ((c : Int) ∈ L) := by
 simp only [Cq,List.getElem_map,List.getElem_range]
theorem TZ (L : List Int) {c : Nat} (h : c < OT L) (h2 : c < 65) : (c : Int) ∈ L := by
 have hc : c < (Cq L).length := by rw [oZ]; exact h2
 have := List.not_of_lt_findIdx h;rw [vY] at this;simpa using this
theorem KZ (L : List Int) (h : L.length < 65) : OT L <= L.length := by
 apply Nat.le_of_not_lt;intro q;have := Yd (L.length + 1) L fun c hc => TZ L (by omega) (by omega);omega
theorem TY (L : List Int) (h : L.length < 65) : (OT L : Int) ∉ L := by
 have hl : OT L < (Cq L).length := by have := KZ L h; rw [oZ]; omega
 have := List.findIdx_getElem (w := hl) (p := fun b => !b) (xs := Cq L);have g := vY L (OT L) hl;unfold OT at g ⊢;rw [g] at this;simpa using this
def yx (C : List Int) (W : List Int) : List Int := W.filterMap fun w => if 0 <= C.getD w.toNat (-1) then some (C.getD w.toNat (-1)) else none
def Pl (nb : Nat -> List Int) (C : List Int) (v : Int) : List Int := C.set v.toNat (OT (yx C (nb v.toNat)) : Nat)
def xf (nb : Nat -> List Int) (N : Nat) (O : List Int) : List Int := O.foldl (Pl nb) (aF N (-1))
theorem TL (C W : List Int) : (yx C W).length <= W.length := List.length_filterMap_le _ _
theorem TK {C W : List Int} {c : Int} : c ∈ yx C W ↔ ∃ w ∈ W,C.getD w.toNat (-1) = c /\ 0 <= c := by
 unfold yx;rw [List.mem_filterMap];constructor
 ·rintro ⟨w,hw,h⟩;split at h
  ·rename_i q;cases h;exact ⟨w,hw,rfl,q⟩
  ·cases h
 ·rintro ⟨w,hw,rfl,h⟩;exact ⟨w,hw,by rw [if_pos h]⟩
structure NbOK (nb : Nat -> List Int) (N : Nat) : Prop where
 len : ∀ v,v < N -> (nb v).length < 65
 W0 : ∀ v,v < N -> ∀ w ∈ nb v,0 <= w /\ w < N
 sym : ∀ u v : Nat,u < N -> v < N -> (v : Int) ∈ nb u -> (u : Int) ∈ nb v
 irr : ∀ v : Nat,v < N -> (v : Int) ∉ nb v
structure Cso (nb : Nat -> List Int) (N : Nat) (C : List Int) : Prop where
 len : C.length = N
 W0 : ∀ c ∈ C,-1 <= c /\ c < 65
 pro : ∀ u v : Nat,u < N -> v < N -> (v : Int) ∈ nb u -> 0 <= C.getD u (-1) -> C.getD u (-1) ≠ C.getD v (-1)
theorem zM {C : List Int} {i j : Nat} {x d : Int} (h : i < C.length) : (C.set i x).getD j d = if i = j then x else C.getD j d := by
 rw [aI,List.getElem?_set,aI];by_cases e : i = j
 ·subst e;rw [if_pos rfl,if_pos h,if_pos rfl]; rfl
 ·rw [if_neg e,if_neg e]
theorem Xn {nb : Nat -> List Int} {N : Nat} (hn : NbOK nb N) {C : List Int} (h : Cso nb N C) {v : Int} (hv : 0 <= v /\ v < N) : Cso nb N (Pl nb C v) := by
 obtain ⟨v,rfl⟩ : ∃ k : Nat,v = (k : Int) := ⟨v.toNat,by omega⟩;have Ul : v < N := by omega
 have hl : v < C.length := by rw [h.len]; exact Ul
 have ht : (v : Int).toNat = v := by omega
 have nl : (yx C (nb v)).length < 65 := by have := TL C (nb v); have := hn.len v Ul; omega
 have ml := KZ _ nl;have mo := TY _ nl;unfold Pl;rw [ht];generalize hm : OT (yx C (nb v)) = m at *;refine ⟨by rw [cJ,h.len],fun c hc => ?_,fun a b ha hb hab h0 => ?_⟩
 ·rcases List.mem_or_eq_of_mem_set hc with q | q
  ·exact h.W0 c q
  ·omega
 ·rw [zM hl] at h0;rw [zM hl,zM hl];by_cases e : v = a
  ·subst e;have : v ≠ b := fun q => hn.irr v Ul (q ▸ hab);rw [if_pos rfl,if_neg this];intro q;exact mo (TK.2 ⟨b,hab,by rw [show (b : Int).toNat = b by omega]; exact q.symm,by omega⟩)
  ·rw [if_neg e] at h0 ⊢;by_cases e2 : v = b
   ·subst e2;rw [if_pos rfl];intro q;exact mo (TK.2 ⟨a,hn.sym a v ha Ul hab,by rw [show (a : Int).toNat = a by omega]; exact q,by omega⟩)
   ·rw [if_neg e2];exact h.pro a b ha hb hab h0
theorem Lv {nb : Nat -> List Int} {N : Nat} (hn : NbOK nb N) : ∀ (O C : List Int),(∀ v ∈ O,0 <= v /\ v < (N : Int)) -> Cso nb N C -> Cso nb N (O.foldl (Pl nb) C) /\ (∀ i : Nat,i < N -> (0 <= C.getD i (-1) \/ (i : Int) ∈ O) -> 0 <= (O.foldl (Pl nb) C).getD i (-1))
 | [],C,_,h => ⟨h,fun i hi q => q.elim id fun q => absurd q List.not_mem_nil⟩
 | v :: O,C,hO,h => by
   have hv := hO v List.mem_cons_self;have hl : v.toNat < C.length := by rw [h.len]; omega
   obtain ⟨a,b⟩ := Lv hn O (Pl nb C v) (fun w hw => hO w (List.mem_cons_of_mem _ hw)) (Xn hn h hv);refine ⟨a,fun i hi q => b i hi ?_⟩;unfold Pl;rw [zM hl];by_cases e : v.toNat = i
   ·rw [if_pos e]; exact .inl (by omega)
   ·rw [if_neg e];rcases q with q | q
    ·exact .inl q
    ·rcases List.mem_cons.1 q with q | q
     ·omega
     ·exact .inr q
theorem GB (nb : Nat -> List Int) (N : Nat) : Cso nb N (aF N (-1)) := by
 refine ⟨List.length_replicate,fun c hc => ?_,fun u v hu hv _ h0 => ?_⟩
 ·rw [List.eq_of_mem_replicate hc]; omega
 ·rw [aI,List.getElem?_replicate,if_pos hu] at h0;simp at h0
/- What slices.Index of bools and slices.Repeat of one number return. -/
def vE (l : List Bool) : List AV := l.map AV.bool
theorem kU (l : List Bool) : (vE l).length = l.length := gF _
theorem QT (l : List Bool) (i : Nat) (h : i < (vE l).length) : (vE l)[i] = .bool (l[i]'(by simpa [vE] using h)) := by simp [vE]
theorem NC (l : List Bool) (hl : l.length < 1000000) (m : Nat) (hm : m < l.length) (h1 : ∀ j (hj : j < m),l[j]'(by omega) = true) (h2 : l[m] = false) : ∀ n i : Nat,i + n = m -> aW au 0 (.loop Ud) ⟨[(0,.list 1 (vE l)),(1,.bool false),(7,.int .i64 l.length),(8,.int .i64 i)],[]⟩ = some (.ret,⟨[(4,.int .i64 m)],[]⟩)
 | 0,i,e => by
   obtain rfl : i = m := by omega
   have i1 : (i : Int) < l.length := by omega
   refine dK ?_;unfold Ud;simp [SQ,SP,SO,SN,SM,SL,SK,SJ,i1,hm,h2,QT,kU,idx,aN,aq,aM,bp,bV,an,ak,aj,af,aE,aL,bu,bq]
 | n + 1,i,e => by
   have hi : i < l.length := by omega
   have i1 : (i : Int) < l.length := by omega
   have h3 := h1 i (by omega);have w := eT (i := i) (by omega);refine (aY ?_).trans (NC l hl m hm h1 h2 n (i + 1) (by omega));unfold Ud;simp [SQ,SP,SO,SN,SM,SL,SK,SJ,i1,hi,h3,w,QT,kU,idx,aN,aq,aM,bp,bV,an,ak,aj,af,aE,aL,bu,bq]
theorem abN (L : List Int) (h : L.length < 65) : br au nQE [.list 1 (vE (Cq L)),.bool false] [] = some (.int .i64 (OT L : Nat),[]) := by
 have hl : OT L < (Cq L).length := by have := KZ L h; rw [oZ]; omega
 have lp := NC (Cq L) (by rw [oZ]; omega) (OT L) hl (fun j hj => by
  rw [vY];exact decide_eq_true (TZ L hj (by rw [oZ] at hl; omega))) (by
  rw [vY];exact decide_eq_false (TY L h)) (OT L) 0 (by omega)
 rw [fY] at lp;rw [aV oQE sQE (aD rfl)];unfold qQE cQE;simp [SQ,SP,SO,SN,SM,SL,SK,SJ,lp,kU,aN,aq,aM,bp,bV,an,ak,aj,af,aE,aL,bu,bq]
def rpt (n : Nat) : Bool := match gI au 300 nQC [.list 1 [.int .i64 (-1)],.int .i64 n] [] with
 | some (.own 1 xs,[]) => kB xs (aF n (.int .i64 (-1)))
 | _ => false
theorem aaN : (cH 65).all rpt = true := by kernel_rfl
theorem aaV (n : Nat) (h : n <= 64) : br au nQC [.list 1 [.int .i64 (-1)],.int .i64 n] [] = some (.own 1 (ints (aF n (-1))),[]) := by
 have r := lr.1 aaN n (di.2 (by omega));have e : ints (aF n (-1)) = aF n (.int .i64 (-1)) := by unfold ints; rw [List.map_replicate]
 rw [e];unfold rpt at r;split at r
 ·rename_i xs hx;rw [nf _ _ r] at hx;exact dD.2 ⟨300,hx⟩
 ·cases r
/- What masks.All and masks.Bit return. -/
def isU (z : Nat) : Option (AV × Heap) -> Bool
 | some (.int .u64 x,[]) => decide (x = (z : Int))
 | _ => false
theorem Zb {z : Nat} {r : Option (AV × Heap)} (h : isU z r = true) : r = some (.int .u64 (z : Int),[]) := by
 unfold isU at h;split at h
 ·rw [of_decide_eq_true h]
 ·cases h
theorem YX : ((cH 65).all fun n => isU (2 ^ n - 1) (gI au 100 P0 [.int .i64 n] [])) = true := by kernel_rfl
theorem YW (n : Nat) (h : n <= 64) : br au P0 [.int .i64 n] [] = some (.int .u64 ((2 ^ n - 1 : Nat) : Int),[]) :=
 dD.2 ⟨100,Zb (lr.1 YX n (di.2 (by omega)))⟩
theorem YU : ((cH 64).all fun n => isU (2 ^ n) (gI au 100 FL [.int .i64 n] [])) = true := by kernel_rfl
theorem FP (n : Nat) (h : n < 64) : br au FL [.int .i64 n] [] = some (.int .u64 ((2 ^ n : Nat) : Int),[]) :=
 dD.2 ⟨100,Zb (lr.1 YU n (di.2 (by omega)))⟩
theorem P8 (x : Nat) (h0 : x ≠ 0) (hx : x < 18446744073709551616) : br au PZ [.int .u64 x] [] = some (.int .i64 (tz x : Nat),[]) := by
 have t := Dk x h0 hx;rw [aV oQb0 sQb0 (aD rfl)];generalize tz x = y at *;unfold qQb0 cQb0;simp [XX,XW,t,sQv,iQv,lQv,aN,aq,aM,bp,bV,an,ak,aj,af,aE,aL,bu,bq]
end Go.BmP
/- What maxclique.Colour returns: the greedy colouring in the order given. -/

set_option maxHeartbeats 8000000
namespace Go.BmP
open Go.Am Go.Bm
def eC (N : Nat) (Es : List Ed) (v : Nat) : List Int := B3 N Es (v : Int)
theorem CV {N : Nat} {Es : List Ed} (hG : ke (N : Int) Es) : NbOK (eC N Es) N := by
 have hN := hG.1.2;refine ⟨fun v hv => ?_,fun v hv w hw => ?_,fun u v hu hv h => ?_,fun v hv h => ?_⟩
 ·have := TM hG (u := (v : Int)) (by omega) (by omega);unfold eC; omega
 ·have := (F8 hG ((o9 hG (by omega) (by omega) w).1 hw)).2.1;exact this
 ·have := (o9 hG (by omega) (by omega) _).1 h;exact (o9 hG (by omega) (by omega) _).2 this.symm
 ·have := (F8 hG ((o9 hG (by omega) (by omega) _).1 h)).2.2;exact this rfl
theorem Xj (L : List Int) (c : Nat) (hc : c < 65) : Cq (L ++ [(c : Int)]) = (Cq L).set c true := by
 refine List.ext_getElem (by rw [cJ,oZ,oZ]) fun j h1 h2 => ?_;rw [vY,List.getElem_set];by_cases e : c = j
 ·subst e;rw [if_pos rfl];exact decide_eq_true (by simp)
 ·rw [if_neg e,vY]
  have : ((j : Int) ∈ L ++ [(c : Int)]) ↔ (j : Int) ∈ L := by
   simp only [List.mem_append,List.mem_singleton];constructor
   ·rintro (h | h)
    ·exact h
    ·omega
   ·exact .inl
  exact decide_eq_decide.2 this
theorem acM (l : List Bool) (i : Nat) (x : Bool) : vE (l.set i x) = (vE l).set i (.bool x) := by unfold vE; rw [Vb]
theorem Qd (l : List Bool) : ∀ (f : Nat -> Rt) (n : Nat),eM f n (vE l) = vE l := by
 induction l with
 | nil => exact fun _ _ => rfl
 | cons x r ih =>
   intro f n;show AV.bool x :: eM f (n + 1) (vE r) = _;rw [ih]; rfl
def CH (C W : List Int) (j : Nat) : List Bool := Cq (yx C (W.take j))
theorem aaj {C W : List Int} {j : Nat} (hj : j < W.length) : CH C W (j + 1) = if 0 <= C.getD W[j].toNat (-1) then Cq (yx C (W.take j) ++ [C.getD W[j].toNat (-1)]) else CH C W j := by
 unfold CH;rw [List.take_succ_eq_append_getElem hj];have : yx C (W.take j ++ [W[j]]) = yx C (W.take j) ++ yx C [W[j]] := List.filterMap_append;rw [this];by_cases q : 0 <= C.getD W[j].toNat (-1)
 ·rw [if_pos q];have : yx C [W[j]] = [C.getD W[j].toNat (-1)] := by simp only [yx,Vd,WV,if_pos q]
  rw [this]
 ·rw [if_neg q];have : yx C [W[j]] = [] := by simp only [yx,Vd,WV,if_neg q]
  rw [this,List.append_nil]
def QN (B : Q2) (C : List Int) (v : Int) (A : AV) (n i : Int) (W : List Int) (j : Int) (T : List Bool) (J : Env) : St :=
 ⟨(2,.ptr 0 0) :: (7,.own 1 (ints C)) :: (9,.int .i64 v) :: (10,.ptr 1 0) :: (36,A) :: (37,.int .i64 n) :: (38,.int .i64 i) :: (44,.list 1 (ints W)) :: (45,.int .i64 W.length) :: (46,.int .i64 j) :: J,[B,some (vE T)]⟩
theorem Z6 (N : Int) (Y : List AV) (C : List Int) (hC : ∀ c ∈ C,-1 <= c /\ c < 65) (v : Int) (A : AV) (n i : Int) (W : List Int) (hW : W.length < 65) (hw : ∀ w ∈ W,0 <= w /\ w < C.length) (j : Nat) (hj : j < W.length) : aW au 0 I4 (QN (some [.int .i64 N,.list 2 Y]) C v A n i W j (CH C W j) []) = some (.normal,QN (some [.int .i64 N,.list 2 Y]) C v A n i W ((j + 1 : Nat) : Int) (CH C W (j + 1)) []) := by
 rw [aaj hj];have hwj := hw W[j] (dN hj);obtain ⟨x,hx⟩ : ∃ x : Nat,W[j] = (x : Int) := ⟨W[j].toNat,by omega⟩;have xl : x < C.length := by omega
 have ht : W[j].toNat = x := by omega
 rw [ht];have gd : C.getD x (-1) = C[x] := by rw [aI,aB xl]; rfl
 rw [gd];have hc := hC C[x] (dN xl);have j1 : (j : Int) < W.length := by omega
 have wr := eT (i := j) (by omega);have x1 : (x : Int) < C.length := by omega
 have gw : ∀ h,(ints W)[j]'h = .int .i64 (x : Int) := fun h => by rw [aL,hx]
 have lW := af W;have lC := af C;have n2 := Qd (CH C W j);have lT : (vE (CH C W j)).length = 65 := by rw [kU]; exact oZ _
 unfold QN;by_cases q : 0 <= C[x]
 ·rw [if_pos q];obtain ⟨y,hy⟩ : ∃ y : Nat,C[x] = (y : Int) := ⟨C[x].toNat,by omega⟩;have y1 : (y : Int) < 65 := by omega
  have y2 : y < 65 := by omega
  have y3 : y <= 64 := by omega
  have gc : ∀ h,(ints C)[x]'h = .int .i64 (y : Int) := fun h => by rw [aL,hy]
  rw [hy,Xj _ _ y2,acM];change _ = some (Ex.normal,(⟨_,[_,some ((vE (CH C W j)).set y (.bool true))]⟩ : St));have y5 : y < (vE (CH C W j)).length := by omega
  have dx : (vE (CH C W j)).drop y = .bool ((CH C W j)[y]'(by rwa [kU] at y5)) :: (vE (CH C W j)).drop (y + 1) := by rw [bk y5,QT]
  have sx : (vE (CH C W j)).take y ++ .bool true :: (vE (CH C W j)).drop (y + 1) = (vE (CH C W j)).set y (.bool true) := by rw [Ae,if_pos y5]
  generalize (CH C W j)[y]'(by rwa [kU] at y5) = b0 at dx;generalize vE (CH C W j) = T at *;generalize ints W = W1 at *;generalize ints C = C1 at *;clear hC hw hwj;unfold I4;simp [DT,DS,DR,DQ,DP,DO,DN,DM,DL,DK,xH,xG,xF,xE,xD,xC,xB,xA,xz,xy,j1,hj,wr,x1,xl,gw,gc,lW,lC,n2,lT,y1,y2,y3,dx,sx,idx,aN]
 ·rw [if_neg q];have gc : ∀ h,(ints C)[x]'h = .int .i64 C[x] := fun h => by rw [aL]
  generalize C[x] = z at *;generalize vE (CH C W j) = T at *;generalize ints W = W1 at *;generalize ints C = C1 at *;clear hC hw hwj;unfold I4;simp [DT,DS,DR,DQ,DP,DO,DN,DM,DL,DK,xH,xG,xF,xE,xD,xC,xB,xA,xz,xy,j1,hj,wr,x1,xl,gw,gc,lW,lC,n2,lT,q,idx,aN]
/- maxclique.Colour as a whole. -/
theorem aeE (N : Int) (Y : List AV) (C : List Int) (hC : ∀ c ∈ C,-1 <= c /\ c < 65) (v : Int) (A : AV) (n i : Int) (W : List Int) (hW : W.length < 65) (hw : ∀ w ∈ W,0 <= w /\ w < C.length) : ∀ k j : Nat,j + k = W.length -> aW au 0 (.loop I4) (QN (some [.int .i64 N,.list 2 Y]) C v A n i W j (CH C W j) []) = some (.exit 2,QN (some [.int .i64 N,.list 2 Y]) C v A n i W W.length (CH C W W.length) [(47,.bool false)])
 | 0,j,h => by
   obtain rfl : j = W.length := by omega
   refine bw ?_;unfold QN;generalize vE (CH C W W.length) = T;generalize ints W = W1;generalize ints C = C1;unfold I4;simp [DT,DS,DR,DQ,DP,DO,DN,DM,DL,DK,xH,xG,xF,xE,xD,xC,xB,xA,xz,xy,aN]
 | k + 1,j,h => (aY (Z6 N Y C hC v A n i W hW hw j (by omega))).trans (aeE N Y C hC v A n i W hW hw k (j + 1) (by omega))
theorem V2 (L : List Int) (i : Nat) (x : Int) : ints (L.set i x) = (ints L).set i (.int .i64 x) := by unfold ints; rw [Vb]
theorem Uz : ∀ l : List Bool,si (vE l) = some (vE l)
 | [] => rfl
 | x :: r => by
   show (match N8 (.bool x),si (vE r) with | some y,some ys => some (y :: ys) | _,_ => none) = _;rw [Uz r]; rfl
theorem aaF : vE (Cq []) = [.bool false,.bool false,.bool false,.bool false,.bool false,.bool false,.bool false,.bool false,.bool false,.bool false,.bool false,.bool false,.bool false,.bool false,.bool false,.bool false,.bool false,.bool false,.bool false,.bool false,.bool false,.bool false,.bool false,.bool false,.bool false,.bool false,.bool false,.bool false,.bool false,.bool false,.bool false,.bool false,.bool false,.bool false,.bool false,.bool false,.bool false,.bool false,.bool false,.bool false,.bool false,.bool false,.bool false,.bool false,.bool false,.bool false,.bool false,.bool false,.bool false,.bool false,.bool false,.bool false,.bool false,.bool false,.bool false,.bool false,.bool false,.bool false,.bool false,.bool false,.bool false,.bool false,.bool false,.bool false,.bool false] := by rfl
theorem agV {N : Nat} {Es : List Ed} (hG : ke (N : Int) Es) (hE : Es.length < 1000000) (C O : List Int) (hC : Cso (eC N Es) N C) (hO : ∀ v ∈ O,0 <= v /\ v < (N : Int)) (hl : O.length < 1000000) (i : Nat) (hi : i < O.length) : aW au 0 Nl ⟨[(2,.ptr 0 0),(7,.own 1 (ints C)),(36,.list 1 (ints O)),(37,.int .i64 O.length),(38,.int .i64 i)],[some [.int .i64 N,.list 2 (dO Es)]]⟩ = some (.normal,⟨[(2,.ptr 0 0),(7,.own 1 (ints (Pl (eC N Es) C O[i]))),(36,.list 1 (ints O)),(37,.int .i64 O.length),(38,.int .i64 ((i + 1 : Nat) : Int))],[some [.int .i64 N,.list 2 (dO Es)]]⟩) := by
 have hN := hG.1.2;have nb := CV hG;obtain ⟨v0,v1⟩ := hO O[i] (dN hi);obtain ⟨v,hv⟩ : ∃ v : Nat,O[i] = (v : Int) := ⟨O[i].toNat,by omega⟩;have vN : v < N := by omega
 have W64 := nb.len v vN;have gn := abU hG hE vN;have lp := aeE (N : Int) (dO Es) C hC.W0 (v : Int) (.list 1 (ints O)) O.length i (eC N Es v) W64 (fun w hw => by rw [hC.len]; exact nb.W0 v vN w hw) (eC N Es v).length 0 (by omega);have c0 : CH C (eC N Es v) 0 = Cq [] := by unfold CH; rw [List.take_zero]; rfl
 have c1 : CH C (eC N Es v) (eC N Es v).length = Cq (yx C (eC N Es v)) := by unfold CH; rw [List.take_length]
 have nl : (yx C (eC N Es v)).length < 65 := by have := TL C (eC N Es v); omega
 have ix := abN _ nl
 have e : Pl (eC N Es) C O[i] = C.set v (OT (yx C (eC N Es v)) : Nat) := by
  unfold Pl;rw [hv];rfl
 rw [e,V2];rw [fY,c1] at lp;unfold QN at lp;rw [c0,aaF] at lp;have lT : (vE (Cq (yx C (eC N Es v)))).length = 65 := by rw [kU]; exact oZ _
 have tT : (vE (Cq (yx C (eC N Es v)))).take 65 = vE (Cq (yx C (eC N Es v))) := du (by omega);have fT : si (vE (Cq (yx C (eC N Es v)))) = some (vE (Cq (yx C (eC N Es v)))) := Uz _;change br au nQD _ [] = some (.list 1 (ints (eC N Es v)),[]) at gn;generalize OT (yx C (eC N Es v)) = m at *;generalize vE (Cq (yx C (eC N Es v))) = T at *;have i1 : (i : Int) < O.length := by omega
 have wr := eT (i := i) (by omega);have go : ∀ h,(ints O)[i]'h = .int .i64 (v : Int) := fun h => by rw [aL,hv]
 have x1 : (v : Int) < C.length := by rw [hC.len]; omega
 have x2 : v < C.length := by rw [hC.len]; omega
 have lC := af C;have lO := af O;have lW := af (eC N Es v);have pW := fG (eC N Es v);have y5 : v < (ints C).length := by omega
 have dx : (ints C).drop v = .int .i64 C[v] :: (ints C).drop (v + 1) := by rw [bk y5,aL]
 have sx : (ints C).take v ++ .int .i64 (m : Int) :: (ints C).drop (v + 1) = (ints C).set v (.int .i64 (m : Int)) := by rw [Ae,if_pos y5]
 generalize C[v] = z at dx;generalize eC N Es v = W at *;generalize dO Es = Y at *;generalize ints C = C1 at *;generalize ints O = O1 at *;generalize ints W = W1 at *;unfold Nl;simp [DT,DS,DR,DQ,DP,DO,DN,DM,DL,DK,xH,xG,xF,xE,xD,xC,xB,xA,xz,xy,i1,hi,wr,go,x1,x2,lC,lO,lW,pW,dx,sx,gn,lp,ix,lT,tT,fT,idx,aN,sQD,iQD,lQD,sQE,iQE,lQE,ko,fQ,gz,pl,jt,dQ,l6,mg,gg,fx]
/- Two sides, one first: two colours at most; a proper colouring stays proper without an edge. -/
theorem Gl {N : Nat} {Es : List Ed} (hG : ke (N : Int) Es) (O : List Int) (hO : ∀ v ∈ O,0 <= v /\ v < (N : Int)) (jO : ∀ i : Nat,i < N -> (i : Int) ∈ O) : (xf (eC N Es) N O).length = N /\ (∀ i : Nat,i < N -> 0 <= (xf (eC N Es) N O).getD i (-1)) /\ ∀ e ∈ Es,(xf (eC N Es) N O).getD e.1.toNat (-1) ≠ (xf (eC N Es) N O).getD e.2.toNat (-1) := by
 have nb := CV hG;obtain ⟨ok,full⟩ := Lv nb O (aF N (-1)) hO (GB _ _);refine ⟨ok.len,fun i hi => full i hi (.inr (jO i hi)),fun e he => ?_⟩;have b := hG.2.2 e he;have h1 : e.1.toNat < N := by omega
 have h2 : e.2.toNat < N := by omega
 refine ok.pro e.1.toNat e.2.toNat h1 h2 ?_ (full _ h1 (.inr (jO _ h1)));show ((e.2.toNat : Nat) : Int) ∈ B3 N Es ((e.1.toNat : Nat) : Int);rw [o9 hG (by omega) (by omega),show ((e.1.toNat : Nat) : Int) = e.1 by omega,show ((e.2.toNat : Nat) : Int) = e.2 by omega];exact .inl he
/- What maxclique.Colour returns. -/
theorem UO {N : Nat} {Es : List Ed} (hG : ke (N : Int) Es) (hE : Es.length < 1000000) (O : List Int) (hO : ∀ v ∈ O,0 <= v /\ v < (N : Int)) (hl : O.length < 1000000) : ∀ (k i : Nat) (C : List Int),i + k = O.length -> Cso (eC N Es) N C -> aW au 0 (.loop Nl) ⟨[(2,.ptr 0 0),(7,.own 1 (ints C)),(36,.list 1 (ints O)),(37,.int .i64 O.length),(38,.int .i64 i)],[some [.int .i64 N,.list 2 (dO Es)]]⟩ = some (.exit 0,⟨[(2,.ptr 0 0),(7,.own 1 (ints ((O.drop i).foldl (Pl (eC N Es)) C))),(36,.list 1 (ints O)),(37,.int .i64 O.length),(38,.int .i64 O.length),(39,.bool false)],[some [.int .i64 N,.list 2 (dO Es)]]⟩)
 | 0,i,C,h,_ => by
   obtain rfl : i = O.length := by omega
   rw [bU,List.foldl_nil];refine bw ?_;generalize ints C = C1;generalize ints O = O1;generalize dO Es = Y;unfold Nl;simp [DT,DS,DR,DQ,DP,DO,DN,DM,DL,DK,xH,xG,xF,xE,xD,xC,xB,xA,xz,xy,aN]
 | k + 1,i,C,h,hC => by
   have hi : i < O.length := by omega
   rw [bk hi,List.foldl_cons];exact (aY (agV hG hE C O hC hO hl i hi)).trans (UO hG hE O hO hl k (i + 1) _ (by omega) (Xn (CV hG) hC (hO _ (dN hi))))
theorem GD {N : Nat} {Es : List Ed} (hG : ke (N : Int) Es) (hE : Es.length < 1000000) (O : List Int) (hl : O.length = N) (hs : bZ O = ik N) (hO : ∀ v ∈ O,0 <= v /\ v < (N : Int)) : br au YI [.agg [.int .i64 N,.list 2 (dO Es)],.list 1 (ints O)] [] = some (.dB [.list 1 (ints (xf (eC N Es) N O)),.int .i64 0],[]) := by
 rw [aV oQi sQi (aD rfl)];have hN := hG.1.2;have g := nJ N Es (by omega);rw [iw.2 hG] at g;have of := TF O (by omega);rw [hs] at of;have rg := PO N;have rl : (ik (N : Int)).length < 4294967295 := by rw [<- hs]; have := iu O; omega
 have eq := ab4 (ik (N : Int)) (ik (N : Int)) rl;rw [decide_eq_true rfl] at eq;have rp := aaV N (by omega);have lp := UO hG hE O hO (by omega) O.length 0 (aF N (-1)) (by omega) (GB _ _);rw [cS,fY,hl] at lp;change aW au 0 _ _ = some (Ex.exit 0,(⟨[(2,.ptr 0 0),(7,.own 1 (ints (xf (eC N Es) N O))),(36,.list 1 (ints O)),(37,.int .i64 N),(38,.int .i64 N),(39,.bool false)],[some [.int .i64 N,.list 2 (dO Es)]]⟩ : St)) at lp;have lg : (xf (eC N Es) N O).length = N := (Lv (CV hG) O _ hO (GB _ _)).1.len;have tk : (ints (xf (eC N Es) N O)).take N = ints (xf (eC N Es) N O) := du (by rw [af]; omega);have lO : (ints O).length = N := by rw [af,hl]
 have lG : (ints (xf (eC N Es) N O)).length = N := by rw [af,lg]
 have pr := fG (ik (N : Int));have pg := fG (xf (eC N Es) N O);have fg := hB (xf (eC N Es) N O);generalize ints (xf (eC N Es) N O) = R1 at *;generalize ints (ik (N : Int)) = R2 at *;have cR := aj (aF N (-1));generalize ints (aF N (-1)) = R3 at *;generalize ints O = O1 at *;generalize dO Es = Y at *;unfold qQi cQi;simp [DT,DS,DR,DQ,DP,DO,DN,DM,DL,DK,xH,xG,xF,xE,xD,xC,xB,xA,xz,xy,g,cR,of,rg,eq,rp,lp,tk,lO,lG,pr,pg,fg,aN,bu,bq,ko,fQ,gz,pl,sQs,iQs,lQs,sQx,iQx,lQx,sQB,iQB,lQB,sQA,iQA,lQA,sQC,iQC,lQC]
/- What maxclique.Proper returns of a proper colouring: true. -/
theorem Ph (env : Env) (H : Heap) : trim H.length env H.length H = H := by
 have : ∀ (l : Nat) (env : Env) (H : Heap),trim l env l H = H := by
  intro l env H;cases l with
  | zero => rfl
  | succ n => unfold trim; rw [if_neg (by omega)]
 exact this _ _ _
def aiZ (R : Heap) : Prop := (∀ g,ft g R = R) /\ jt R = true /\ (∀ p b,WE p b R = none) /\ (∀ f,CI f R = false) /\ ∀ p b,pJ p b R = []
def Ct (N : Int) (Y : List AV) (C : List Int) : Heap := [some [.int .i64 N,.list 2 Y],some [.list 1 (ints C)]]
theorem aba (H : Heap) (hH : aiZ H) (x : Int) (h : 0 <= x) : br au YL [.int .i64 x] H = some (.bool false,H) := by
 obtain ⟨r1,r2,r3,r4,r5⟩ := hH;have q : ¬ x < 0 := by omega
 rw [aV oQK sQK (aD rfl)];unfold qQK cQK;simp [aea,ad9,q,uk,ko,mg,r1,r2,r3,r4,r5,Ph,aN,aq,aM,bp,bV,an,ak,aj,af,aE,aL,bu,bq]
theorem NF (N : Int) (Y : List AV) (C : List Int) (hl : C.length < 1000000) (h : ∀ x ∈ C,0 <= x) : ∀ n i : Nat,i + n = C.length -> aW au 2 (.loop Uf) ⟨[(0,.list 1 (ints C)),(1,.func (.func YL) [] []),(7,.int .i64 C.length),(8,.int .i64 i)],Ct N Y C⟩ = some (.exit 0,⟨[(0,.list 1 (ints C)),(1,.func (.func YL) [] []),(7,.int .i64 C.length),(8,.int .i64 C.length),(9,.bool false)],Ct N Y C⟩)
 | 0,i,e => by
   obtain rfl : i = C.length := by omega
   refine bw ?_;unfold Ct;generalize ints C = C1;unfold Uf;simp [SZ,SY,SX,SW,SV,SU,SS,SR,aN]
 | n + 1,i,e => by
   have hi : i < C.length := by omega
   have i1 : (i : Int) < C.length := by omega
   have w := eT (i := i) (by omega);have cv := aba (Ct N Y C) ⟨fun _ => rfl,rfl,fun _ _ => rfl,fun _ => rfl,fun _ _ => rfl⟩ C[i] (h _ (dN hi));have g : ∀ h,(ints C)[i]'h = .int .i64 C[i] := fun h => aL _ _ _;have lC := af C;have pC := fG C;refine (aY ?_).trans (NF N Y C hl h n (i + 1) (by omega));unfold Ct at cv ⊢;generalize C[i] = x at *;generalize ints C = C1 at *;unfold Uf;simp [SZ,SY,SX,SW,SV,SU,SS,SR,i1,hi,w,cv,g,lC,pC,idx,aN,sQK,iQK,lQK,ko,fQ,gz,pl,jt,dQ,l6,mg,gg,fx,eL,kj,nN,AH,jJ,ym,qB,kB]
theorem aa9 (N : Int) (Y : List AV) (C : List Int) (u v : Nat) (hu : u < C.length) (hv : v < C.length) (hl : C.length < 1000000) (hn : C.getD u (-1) ≠ C.getD v (-1)) : br au YK [.agg [.int .i64 u,.int .i64 v],.ptr 1 0] (Ct N Y C) = some (.bool false,Ct N Y C) := by
 have g1 : C.getD u (-1) = C[u] := by rw [aI,aB hu]; rfl
 have g2 : C.getD v (-1) = C[v] := by rw [aI,aB hv]; rfl
 rw [g1,g2] at hn;have e1 : ∀ h,(ints C)[u]'h = .int .i64 C[u] := fun h => aL _ _ _;have e2 : ∀ h,(ints C)[v]'h = .int .i64 C[v] := fun h => aL _ _ _;have lC := af C;have i1 : (u : Int) < C.length := by omega
 have i2 : (v : Int) < C.length := by omega
 rw [aV oQM sQM (aD rfl)];unfold Ct;generalize C[u] = x at *;generalize C[v] = y at *;generalize ints C = C1 at *;unfold qQM cQM;simp [ad6,ad5,hu,hv,hn,e1,e2,lC,i1,i2,idx,aN,bu,bq,uk,ko,fQ,gz,pl,ft,de,cN,mg,mj,jq,qd,mG]
theorem ND (N : Int) (Es : List Ed) (C : List Int) (hl : C.length < 1000000) (hE : Es.length < 1000000) (h : ∀ e ∈ Es,(0 <= e.1 /\ e.1 < C.length) /\ (0 <= e.2 /\ e.2 < C.length) /\ C.getD e.1.toNat (-1) ≠ C.getD e.2.toNat (-1)) (Y : List AV) : ∀ n i : Nat,i + n = Es.length -> aW au 2 (.loop K9) ⟨[(0,.list 2 (dO Es)),(1,.func (.func YK) [] [.ptr 1 0]),(7,.int .i64 Es.length),(8,.int .i64 i)],Ct N Y C⟩ = some (.exit 0,⟨[(0,.list 2 (dO Es)),(1,.func (.func YK) [] [.ptr 1 0]),(7,.int .i64 Es.length),(8,.int .i64 Es.length),(9,.bool false)],Ct N Y C⟩)
 | 0,i,e => by
   obtain rfl : i = Es.length := by omega
   refine bw ?_;unfold Ct;have lE := aq Es;generalize dO Es = E1 at *;generalize ints C = C1;unfold K9;simp [KI,KH,KG,KF,KE,KD,KC,KB,aN]
 | n + 1,i,e => by
   have hi : i < Es.length := by omega
   have i1 : (i : Int) < Es.length := by omega
   have w := eT (i := i) (by omega);obtain ⟨b1,b2,b3⟩ := h Es[i] (dN hi);obtain ⟨u,hu⟩ : ∃ u : Nat,Es[i].1 = (u : Int) := ⟨Es[i].1.toNat,by omega⟩;obtain ⟨v,hv⟩ : ∃ v : Nat,Es[i].2 = (v : Int) := ⟨Es[i].2.toNat,by omega⟩;have cv := aa9 N Y C u v (by omega) (by omega) hl (by rw [hu,hv] at b3; exact b3);have g0 : (dO Es)[i]? = some (.agg [.int .i64 u,.int .i64 v]) := by rw [aM,aB hi]; show some (AV.agg [.int .i64 Es[i].1,.int .i64 Es[i].2]) = _; rw [hu,hv]
   have g : ∀ h,(dO Es)[i]'h = .agg [.int .i64 u,.int .i64 v] := fun h => by rw [aB h] at g0; exact dn g0
   have lE := aq Es;refine (aY ?_).trans (ND N Es C hl hE h Y n (i + 1) (by omega));unfold Ct at cv ⊢;generalize ints C = C1 at *;generalize dO Es = E1 at *;clear b1 b2 b3 hu hv;unfold K9;simp [KI,KH,KG,KF,KE,KD,KC,KB,i1,hi,w,cv,g,g0,lE,idx,aN,sQM,iQM,lQM,ko,fQ,gz,pl,jt,dQ,l6,mg,gg,fx,eL,kj,nN,AH,jJ,ym,qB,kB]
theorem acI (N : Int) (Y : List AV) (C : List Int) (hl : C.length < 1000000) (h : ∀ x ∈ C,0 <= x) : br au nQJ [.list 1 (ints C),.func (.func YL) [] []] (Ct N Y C) = some (.bool false,Ct N Y C) := by
 have i : br au nQ9 [.list 1 (ints C),.func (.func YL) [] []] (Ct N Y C) = some (.int .i64 (-1),Ct N Y C) := by
  have lp := NF N Y C hl h C.length 0 (by omega);rw [fY] at lp;have lC := af C;rw [aV oQ9 sQ9 (aD rfl)];unfold Ct at lp ⊢;generalize ints C = C1 at *;unfold qQ9 cQ9;simp [SZ,SY,SX,SW,SV,SU,SS,SR,lp,lC,aN,bu,bq,uk,ko,fQ,gz,pl,ft,de,cN,mg,mj,jq,qd,mG]
 have pC := fG C;rw [aV oQJ sQJ (aD rfl)];unfold Ct at i ⊢;generalize ints C = C1 at *;unfold qQJ cQJ;simp [aec,aeb,i,pC,aN,bu,bq,uk,ko,fQ,gz,pl,ft,de,cN,mg,mj,jq,qd,mG,sQ9,iQ9,lQ9,jt,dQ,l6,gg,fx,eL,kj,nN,AH,jJ,ym,qB,kB]
theorem MC (l : List Ed) : gz (dO l) = true /\ fQ (dO l) = true := by
 induction l with
 | nil => exact ⟨rfl,rfl⟩
 | cons x r ih => exact ih
theorem acH (N : Int) (Y : List AV) (Es : List Ed) (C : List Int) (hl : C.length < 1000000) (hE : Es.length < 1000000) (h : ∀ e ∈ Es,(0 <= e.1 /\ e.1 < C.length) /\ (0 <= e.2 /\ e.2 < C.length) /\ C.getD e.1.toNat (-1) ≠ C.getD e.2.toNat (-1)) : br au nQL [.list 2 (dO Es),.func (.func YK) [] [.ptr 1 0]] (Ct N Y C) = some (.bool false,Ct N Y C) := by
 have i : br au P5 [.list 2 (dO Es),.func (.func YK) [] [.ptr 1 0]] (Ct N Y C) = some (.int .i64 (-1),Ct N Y C) := by
  have lp := ND N Es C hl hE h Y Es.length 0 (by omega);rw [fY] at lp;have lE := aq Es;rw [aV oQa0 sQa0 (aD rfl)];unfold Ct at lp ⊢;generalize ints C = C1 at *;generalize dO Es = E1 at *;clear h;unfold qQa0 cQa0;simp [KI,KH,KG,KF,KE,KD,KC,KB,lp,lE,aN,bu,bq,uk,ko,fQ,gz,pl,ft,de,cN,mg,mj,jq,qd,mG]
 have pC := MC Es;rw [aV oQL sQL (aD rfl)];unfold Ct at i ⊢;generalize ints C = C1 at *;generalize dO Es = E1 at *;clear h;unfold qQL cQL;simp [ad8,ad7,i,pC.1,pC.2,aN,bu,bq,uk,ko,fQ,gz,pl,ft,de,cN,mg,mj,jq,qd,mG,sQa0,iQa0,lQa0,jt,dQ,l6,gg,fx,eL,kj,nN,AH,jJ,ym,qB,kB]
theorem Fi {N : Nat} {Es : List Ed} (hG : ke (N : Int) Es) (hE : Es.length < 1000000) (C : List Int) (hl : C.length = N) (h0 : ∀ x ∈ C,0 <= x) (h : ∀ e ∈ Es,C.getD e.1.toNat (-1) ≠ C.getD e.2.toNat (-1)) : br au VO [.agg [.int .i64 N,.list 2 (dO Es)],.list 1 (ints C)] [] = some (.bool true,[]) := by
 have hN := hG.1.2;have g := nJ N Es (by omega);rw [iw.2 hG] at g;have c1 := acI N (dO Es) C (by omega) h0
 have c2 := acH N (dO Es) Es C (by omega) hE (fun e he => by
  have b := hG.2.2 e he;exact ⟨⟨by omega,by omega⟩,⟨by omega,by omega⟩,h e he⟩)
 have lC : (ints C).length = N := by rw [af,hl]
 have pC := fG C;have pE := MC Es;rw [aV oQn sQn (aD rfl)];unfold Ct at c1 c2;generalize ints C = C1 at *;generalize dO Es = Y at *;clear h h0;unfold qQn cQn;simp [adn,adm,adl,adk,g,c1,c2,lC,pC,pE.1,pE.2,aN,bu,bq,ko,fQ,gz,pl,sQs,iQs,lQs,sQJ,iQJ,lQJ,sQL,iQL,lQL,jt,dQ,l6,mg,gg,fx,eL,kj,nN,AH,jJ,ym,qB,kB]
end Go.BmP
