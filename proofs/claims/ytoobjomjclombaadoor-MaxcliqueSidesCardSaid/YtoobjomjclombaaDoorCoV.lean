/- What slices.Equal returns (E01's head). -/
import Derived.Test.YtoobjomjclombaaDoorUseM
import Derived.Test.YtoobjomjclombaaDoorRvG
import Derived.Test.YtoobjomjclombaaDoorR02d
import Derived.Test.YtoobjomjclombaaDoorCfS
import Derived.Test.YtoobjomjclombaaDoorRunX
import Derived.Test.YtoobjomjclombaaDoorPeP
import Derived.KernelRfl
import Derived.Test.YtoobjomjclombaaDoorRwP
import Derived.Test.YtoobjomjclombaaDoorX11
import Derived.Test.YtoobjomjclombaaDoorR02k
set_option linter.unusedSimpArgs false
set_option linter.unusedVariables false
set_option maxRecDepth 100000
set_option maxHeartbeats 4000000
namespace Go.BmP
open Go.Am Go.Bm
theorem eql_loop (a b : List Int) (hl : a.length = b.length) (ha : a.length < 4294967295) : ∀ (k i : Nat),i + k = a.length -> codeL cfgS 0 (.loop lQvX0) ⟨[(0,.list 1 (ints a)),(1,.list 1 (ints b)),(12,.int .i64 a.length),(13,.int .i64 i)],[]⟩ =
  if a.drop i = b.drop i then some (.exit 0,⟨[(0,.list 1 (ints a)),(1,.list 1 (ints b)),(12,.int .i64 a.length),(13,.int .i64 a.length),(14,.bool false)],[]⟩) else some (.ret,⟨[(4,.bool false)],[]⟩)
 | 0,i,hi => by
   obtain rfl : i = a.length := by omega
   rw [List.drop_length,hl,List.drop_length,if_pos rfl];exact loop_exit (by unfold lQvX0; simp [rQvX0,rQvX1,rQvX2,rQvX3,rQvX4,rQvX5,rQvX6,rQvX7,rQvX8,rQvX9,blk,eds_length,eds_get,edsAt,edAV,allLeaf_eds,cleanL_eds,cleanL_ints,ints_length,ints_get,intsAt,endL,finB])
 | k + 1,i,hi => by
   have hlt : i < a.length := by omega
   have hltb : i < b.length := by omega
   have h1 : (i : Int) < a.length := by omega
   have h1b : (i : Int) < b.length := by omega
   have hw := wrapS (i := i) (by omega);have ih := eql_loop a b hl ha k (i + 1) (by omega);have i1 := idx_lt (k := .i64) (i := (i : Int)) (n := a.length) (by omega) h1;have i2 := idx_lt (k := .i64) (i := (i : Int)) (n := b.length) (by omega) h1b;rw [List.drop_eq_getElem_cons hlt,List.drop_eq_getElem_cons hltb];simp only [List.cons.injEq];by_cases e : a[i] = b[i]
   ·have : (a[i] = b[i] /\ a.drop (i + 1) = b.drop (i + 1)) = (a.drop (i + 1) = b.drop (i + 1)) := by simp [e]
    simp only [this];rw [<- ih];exact loop_next (by unfold lQvX0; simp [rQvX0,rQvX1,rQvX2,rQvX3,rQvX4,rQvX5,rQvX6,rQvX7,rQvX8,rQvX9,h1,h1b,hlt,hltb,hw,i1,i2,e,blk,eds_length,eds_get,edsAt,edAV,allLeaf_eds,cleanL_eds,cleanL_ints,ints_length,ints_get,intsAt,endL,finB])
   ·rw [if_neg (fun k => e k.1)];exact loop_ret (by unfold lQvX0; simp [rQvX0,rQvX1,rQvX2,rQvX3,rQvX4,rQvX5,rQvX6,rQvX7,rQvX8,rQvX9,h1,h1b,hlt,hltb,hw,i1,i2,e,blk,eds_length,eds_get,edsAt,edAV,allLeaf_eds,cleanL_eds,cleanL_ints,ints_length,ints_get,intsAt,endL,finB])
theorem eql_run (a b : List Int) (ha : a.length < 4294967295) : callL cfgS nQv [.list 1 (ints a),.list 1 (ints b)] [] = some (.bool (decide (a = b)),[]) := by
 rw [callL_end oQv sQv (Nat.le_of_ble_eq_true rfl)];unfold qQv cQv;by_cases hl : a.length = b.length
 ·have lp := eql_loop a b hl ha a.length 0 (by omega);rw [List.drop_zero,List.drop_zero,nat0] at lp;have hl' : (a.length : Int) = b.length := by omega
  by_cases e : a = b
  ·rw [if_pos e] at lp;subst e;simp [rQvX0,rQvX1,rQvX2,rQvX3,rQvX4,rQvX5,rQvX6,rQvX7,rQvX8,rQvX9,lp,blk,eds_length,eds_get,edsAt,edAV,allLeaf_eds,cleanL_eds,cleanL_ints,ints_length,ints_get,intsAt,endL,finB]
  ·rw [if_neg e] at lp;rw [decide_eq_false e];rw [hl'] at lp;simp [rQvX0,rQvX1,rQvX2,rQvX3,rQvX4,rQvX5,rQvX6,rQvX7,rQvX8,rQvX9,lp,hl',blk,eds_length,eds_get,edsAt,edAV,allLeaf_eds,cleanL_eds,cleanL_ints,ints_length,ints_get,intsAt,endL,finB]
 ·have hl' : ¬ (a.length : Int) = b.length := by omega
  have e : ¬ a = b := fun k => hl (by rw [k]);rw [decide_eq_false e];simp [rQvX0,rQvX1,rQvX2,rQvX3,rQvX4,rQvX5,rQvX6,rQvX7,rQvX8,rQvX9,hl',blk,eds_length,eds_get,edsAt,edAV,allLeaf_eds,cleanL_eds,cleanL_ints,ints_length,ints_get,intsAt,endL,finB]
/- What slices.Index of bools and slices.Repeat of one number return. -/
def bls (l : List Bool) : List AV := l.map AV.bool
theorem bls_length (l : List Bool) : (bls l).length = l.length := List.length_map _
theorem bls_at (l : List Bool) (i : Nat) (h : i < (bls l).length) : (bls l)[i] = .bool (l[i]'(by simpa [bls] using h)) := by simp [bls]
theorem ixb_loop (l : List Bool) (hl : l.length < 1000000) (m : Nat) (hm : m < l.length) (h1 : ∀ j (hj : j < m),l[j]'(by omega) = true) (h2 : l[m] = false) : ∀ n i : Nat,i + n = m -> codeL cfgS 0 (.loop lQAX0) ⟨[(0,.list 1 (bls l)),(1,.bool false),(7,.int .i64 l.length),(8,.int .i64 i)],[]⟩ = some (.ret,⟨[(4,.int .i64 m)],[]⟩)
 | 0,i,e => by
   obtain rfl : i = m := by omega
   have i1 : (i : Int) < l.length := by omega
   refine loop_ret ?_;unfold lQAX0;simp [rQAX0,rQAX1,rQAX2,rQAX3,rQAX4,rQAX5,rQAX6,rQAX7,i1,hm,h2,bls_at,bls_length,idx,blk,eds_length,eds_get,edsAt,edAV,allLeaf_eds,cleanL_eds,cleanL_ints,ints_length,ints_get,intsAt,endL,finB]
 | n + 1,i,e => by
   have hi : i < l.length := by omega
   have i1 : (i : Int) < l.length := by omega
   have h3 := h1 i (by omega);have w := wrapS (i := i) (by omega);refine (loop_next ?_).trans (ixb_loop l hl m hm h1 h2 n (i + 1) (by omega));unfold lQAX0;simp [rQAX0,rQAX1,rQAX2,rQAX3,rQAX4,rQAX5,rQAX6,rQAX7,i1,hi,h3,w,bls_at,bls_length,idx,blk,eds_length,eds_get,edsAt,edAV,allLeaf_eds,cleanL_eds,cleanL_ints,ints_length,ints_get,intsAt,endL,finB]
theorem ixb_run (L : List Int) (h : L.length < 65) : callL cfgS nQA [.list 1 (bls (tkn L)),.bool false] [] = some (.int .i64 (mex L : Nat),[]) := by
 have hl : mex L < (tkn L).length := by have := mex_le L h; rw [tkn_len]; omega
 have lp := ixb_loop (tkn L) (by rw [tkn_len]; omega) (mex L) hl (fun j hj => by
  rw [tkn_get];exact decide_eq_true (mex_low L hj (by rw [tkn_len] at hl; omega))) (by
  rw [tkn_get];exact decide_eq_false (mex_out L h)) (mex L) 0 (by omega)
 rw [nat0] at lp;rw [callL_end oQA sQA (Nat.le_of_ble_eq_true rfl)];unfold qQA cQA;simp [rQAX0,rQAX1,rQAX2,rQAX3,rQAX4,rQAX5,rQAX6,rQAX7,lp,bls_length,blk,eds_length,eds_get,edsAt,edAV,allLeaf_eds,cleanL_eds,cleanL_ints,ints_length,ints_get,intsAt,endL,finB]
def rpt (n : Nat) : Bool := match callB cfgS 300 nQy [.list 1 [.int .i64 (-1)],.int .i64 n] [] with
 | some (.own 1 xs,[]) => avLE xs (List.replicate n (.int .i64 (-1)))
 | _ => false
theorem rpt_all : (List.range 65).all rpt = true := by kernel_rfl
theorem rep_run (n : Nat) (h : n <= 64) : callL cfgS nQy [.list 1 [.int .i64 (-1)],.int .i64 n] [] = some (.own 1 (ints (List.replicate n (-1))),[]) := by
 have r := List.all_eq_true.1 rpt_all n (List.mem_range.2 (by omega));have e : ints (List.replicate n (-1)) = List.replicate n (.int .i64 (-1)) := by unfold ints; rw [List.map_replicate]
 rw [e];unfold rpt at r;split at r
 ·rename_i xs hx;rw [avLE_eq _ _ r] at hx;exact callL_iff.2 ⟨300,hx⟩
 ·cases r
/- What masks.All and masks.Bit return. -/
def isU (z : Nat) : Option (AV × Heap) -> Bool
 | some (.int .u64 x,[]) => decide (x = (z : Int))
 | _ => false
theorem isU_eq {z : Nat} {r : Option (AV × Heap)} (h : isU z r = true) : r = some (.int .u64 (z : Int),[]) := by
 unfold isU at h;split at h
 ·rw [of_decide_eq_true h]
 ·cases h
theorem mall_all : ((List.range 65).all fun n => isU (2 ^ n - 1) (callB cfgS 100 nQa3 [.int .i64 n] [])) = true := by kernel_rfl
theorem mall_run (n : Nat) (h : n <= 64) : callL cfgS nQa3 [.int .i64 n] [] = some (.int .u64 ((2 ^ n - 1 : Nat) : Int),[]) :=
 callL_iff.2 ⟨100,isU_eq (List.all_eq_true.1 mall_all n (List.mem_range.2 (by omega)))⟩
theorem mbit_all : ((List.range 64).all fun n => isU (2 ^ n) (callB cfgS 100 nQa2 [.int .i64 n] [])) = true := by kernel_rfl
theorem mbit_run (n : Nat) (h : n < 64) : callL cfgS nQa2 [.int .i64 n] [] = some (.int .u64 ((2 ^ n : Nat) : Int),[]) :=
 callL_iff.2 ⟨100,isU_eq (List.all_eq_true.1 mbit_all n (List.mem_range.2 (by omega)))⟩
theorem mleast_run (x : Nat) (h0 : x ≠ 0) (hx : x < 18446744073709551616) : callL cfgS nQa4 [.int .u64 x] [] = some (.int .i64 (tz x : Nat),[]) := by
 have t := tz_run x h0 hx;rw [callL_end oQa4 sQa4 (Nat.le_of_ble_eq_true rfl)];generalize tz x = y at *;unfold qQa4 cQa4;simp [rQa4X0,rQa4X1,t,sQO,iQO,lQO,blk,eds_length,eds_get,edsAt,edAV,allLeaf_eds,cleanL_eds,cleanL_ints,ints_length,ints_get,intsAt,endL,finB]
end Go.BmP
/- What maxclique.Colour returns: the greedy colouring in the order given. -/

set_option maxHeartbeats 8000000
namespace Go.BmP
open Go.Am Go.Bm
def nbF9 (N : Nat) (Es : List Ed) (v : Nat) : List Int := nbr N Es (v : Int)
theorem nbF9_ok {N : Nat} {Es : List Ed} (hG : GOK (N : Int) Es) : NbOK (nbF9 N Es) N := by
 have hN := hG.1.2;refine ⟨fun v hv => ?_,fun v hv w hw => ?_,fun u v hu hv h => ?_,fun v hv h => ?_⟩
 ·have := nbr_len hG (u := (v : Int)) (by omega) (by omega);unfold nbF9; omega
 ·have := (jn_bd hG ((nbr_mem hG (by omega) (by omega) w).1 hw)).2.1;exact this
 ·have := (nbr_mem hG (by omega) (by omega) _).1 h;exact (nbr_mem hG (by omega) (by omega) _).2 this.symm
 ·have := (jn_bd hG ((nbr_mem hG (by omega) (by omega) _).1 h)).2.2;exact this rfl
theorem tkn_snoc (L : List Int) (c : Nat) (hc : c < 65) : tkn (L ++ [(c : Int)]) = (tkn L).set c true := by
 refine List.ext_getElem (by rw [List.length_set,tkn_len,tkn_len]) fun j h1 h2 => ?_;rw [tkn_get,List.getElem_set];by_cases e : c = j
 ·subst e;rw [if_pos rfl];exact decide_eq_true (by simp)
 ·rw [if_neg e,tkn_get]
  have : ((j : Int) ∈ L ++ [(c : Int)]) ↔ (j : Int) ∈ L := by
   simp only [List.mem_append,List.mem_singleton];constructor
   ·rintro (h | h)
    ·exact h
    ·omega
   ·exact .inl
  exact decide_eq_decide.2 this
theorem bls_set (l : List Bool) (i : Nat) (x : Bool) : bls (l.set i x) = (bls l).set i (.bool x) := by unfold bls; rw [List.map_set]
theorem lend_bools (l : List Bool) : ∀ (f : Nat -> Rt) (n : Nat),lendC f n (bls l) = bls l := by
 induction l with
 | nil => exact fun _ _ => rfl
 | cons x r ih =>
   intro f n;show AV.bool x :: lendC f (n + 1) (bls r) = _;rw [ih]; rfl
def cTk (C W : List Int) (j : Nat) : List Bool := tkn (ncl C (W.take j))
theorem cTk_next {C W : List Int} {j : Nat} (hj : j < W.length) : cTk C W (j + 1) = if 0 <= C.getD W[j].toNat (-1) then tkn (ncl C (W.take j) ++ [C.getD W[j].toNat (-1)]) else cTk C W j := by
 unfold cTk;rw [List.take_succ_eq_append_getElem hj];have : ncl C (W.take j ++ [W[j]]) = ncl C (W.take j) ++ ncl C [W[j]] := List.filterMap_append;rw [this];by_cases q : 0 <= C.getD W[j].toNat (-1)
 ·rw [if_pos q];have : ncl C [W[j]] = [C.getD W[j].toNat (-1)] := by simp only [ncl,List.filterMap_cons,List.filterMap_nil,if_pos q]
  rw [this]
 ·rw [if_neg q];have : ncl C [W[j]] = [] := by simp only [ncl,List.filterMap_cons,List.filterMap_nil,if_neg q]
  rw [this,List.append_nil]
def coSt (B : Blk) (C : List Int) (v : Int) (A : AV) (n i : Int) (W : List Int) (j : Int) (T : List Bool) (J : Env) : St :=
 ⟨(2,.ptr 0 0) :: (7,.own 1 (ints C)) :: (9,.int .i64 v) :: (10,.ptr 1 0) :: (36,A) :: (37,.int .i64 n) :: (38,.int .i64 i) :: (44,.list 1 (ints W)) :: (45,.int .i64 W.length) :: (46,.int .i64 j) :: J,[B,some (bls T)]⟩
theorem co_round (N : Int) (Y : List AV) (C : List Int) (hC : ∀ c ∈ C,-1 <= c /\ c < 65) (v : Int) (A : AV) (n i : Int) (W : List Int) (hW : W.length < 65) (hw : ∀ w ∈ W,0 <= w /\ w < C.length) (j : Nat) (hj : j < W.length) : codeL cfgS 0 lQjX0 (coSt (some [.int .i64 N,.list 2 Y]) C v A n i W j (cTk C W j) []) = some (.normal,coSt (some [.int .i64 N,.list 2 Y]) C v A n i W ((j + 1 : Nat) : Int) (cTk C W (j + 1)) []) := by
 rw [cTk_next hj];have hwj := hw W[j] (List.getElem_mem hj);obtain ⟨x,hx⟩ : ∃ x : Nat,W[j] = (x : Int) := ⟨W[j].toNat,by omega⟩;have xl : x < C.length := by omega
 have ht : W[j].toNat = x := by omega
 rw [ht];have gd : C.getD x (-1) = C[x] := by rw [List.getD_eq_getElem?_getD,List.getElem?_eq_getElem xl]; rfl
 rw [gd];have hc := hC C[x] (List.getElem_mem xl);have j1 : (j : Int) < W.length := by omega
 have wr := wrapS (i := j) (by omega);have x1 : (x : Int) < C.length := by omega
 have gw : ∀ h,(ints W)[j]'h = .int .i64 (x : Int) := fun h => by rw [intsAt,hx]
 have lW := ints_length W;have lC := ints_length C;have n2 := lend_bools (cTk C W j);have lT : (bls (cTk C W j)).length = 65 := by rw [bls_length]; exact tkn_len _
 unfold coSt;by_cases q : 0 <= C[x]
 ·rw [if_pos q];obtain ⟨y,hy⟩ : ∃ y : Nat,C[x] = (y : Int) := ⟨C[x].toNat,by omega⟩;have y1 : (y : Int) < 65 := by omega
  have y2 : y < 65 := by omega
  have y3 : y <= 64 := by omega
  have gc : ∀ h,(ints C)[x]'h = .int .i64 (y : Int) := fun h => by rw [intsAt,hy]
  rw [hy,tkn_snoc _ _ y2,bls_set];change _ = some (Ex.normal,(⟨_,[_,some ((bls (cTk C W j)).set y (.bool true))]⟩ : St));have y5 : y < (bls (cTk C W j)).length := by omega
  have dx : (bls (cTk C W j)).drop y = .bool ((cTk C W j)[y]'(by rwa [bls_length] at y5)) :: (bls (cTk C W j)).drop (y + 1) := by rw [List.drop_eq_getElem_cons y5,bls_at]
  have sx : (bls (cTk C W j)).take y ++ .bool true :: (bls (cTk C W j)).drop (y + 1) = (bls (cTk C W j)).set y (.bool true) := by rw [List.set_eq_take_append_cons_drop,if_pos y5]
  generalize (cTk C W j)[y]'(by rwa [bls_length] at y5) = b0 at dx;generalize bls (cTk C W j) = T at *;generalize ints W = W1 at *;generalize ints C = C1 at *;clear hC hw hwj;unfold lQjX0;simp [rQjX0,rQjX1,rQjX2,rQjX3,rQjX4,rQjX5,rQjX6,rQjX7,rQjX8,rQjX9,rQjX10,rQjX11,rQjX12,rQjX13,rQjX14,rQjX15,rQjX16,rQjX17,rQjX18,rQjX19,j1,hj,wr,x1,xl,gw,gc,lW,lC,n2,lT,y1,y2,y3,dx,sx,idx,blk]
 ·rw [if_neg q];have gc : ∀ h,(ints C)[x]'h = .int .i64 C[x] := fun h => by rw [intsAt]
  generalize C[x] = z at *;generalize bls (cTk C W j) = T at *;generalize ints W = W1 at *;generalize ints C = C1 at *;clear hC hw hwj;unfold lQjX0;simp [rQjX0,rQjX1,rQjX2,rQjX3,rQjX4,rQjX5,rQjX6,rQjX7,rQjX8,rQjX9,rQjX10,rQjX11,rQjX12,rQjX13,rQjX14,rQjX15,rQjX16,rQjX17,rQjX18,rQjX19,j1,hj,wr,x1,xl,gw,gc,lW,lC,n2,lT,q,idx,blk]
/- maxclique.Colour as a whole. -/
theorem co_in (N : Int) (Y : List AV) (C : List Int) (hC : ∀ c ∈ C,-1 <= c /\ c < 65) (v : Int) (A : AV) (n i : Int) (W : List Int) (hW : W.length < 65) (hw : ∀ w ∈ W,0 <= w /\ w < C.length) : ∀ k j : Nat,j + k = W.length -> codeL cfgS 0 (.loop lQjX0) (coSt (some [.int .i64 N,.list 2 Y]) C v A n i W j (cTk C W j) []) = some (.exit 2,coSt (some [.int .i64 N,.list 2 Y]) C v A n i W W.length (cTk C W W.length) [(47,.bool false)])
 | 0,j,h => by
   obtain rfl : j = W.length := by omega
   refine loop_exit ?_;unfold coSt;generalize bls (cTk C W W.length) = T;generalize ints W = W1;generalize ints C = C1;unfold lQjX0;simp [rQjX0,rQjX1,rQjX2,rQjX3,rQjX4,rQjX5,rQjX6,rQjX7,rQjX8,rQjX9,rQjX10,rQjX11,rQjX12,rQjX13,rQjX14,rQjX15,rQjX16,rQjX17,rQjX18,rQjX19,blk]
 | k + 1,j,h => (loop_next (co_round N Y C hC v A n i W hW hw j (by omega))).trans (co_in N Y C hC v A n i W hW hw k (j + 1) (by omega))
theorem ints_set9 (L : List Int) (i : Nat) (x : Int) : ints (L.set i x) = (ints L).set i (.int .i64 x) := by unfold ints; rw [List.map_set]
theorem frz_bls : ∀ l : List Bool,frzCL (bls l) = some (bls l)
 | [] => rfl
 | x :: r => by
   show (match frzC (.bool x),frzCL (bls r) with | some y,some ys => some (y :: ys) | _,_ => none) = _;rw [frz_bls r]; rfl
theorem tkn_nil : bls (tkn []) = [.bool false,.bool false,.bool false,.bool false,.bool false,.bool false,.bool false,.bool false,.bool false,.bool false,.bool false,.bool false,.bool false,.bool false,.bool false,.bool false,.bool false,.bool false,.bool false,.bool false,.bool false,.bool false,.bool false,.bool false,.bool false,.bool false,.bool false,.bool false,.bool false,.bool false,.bool false,.bool false,.bool false,.bool false,.bool false,.bool false,.bool false,.bool false,.bool false,.bool false,.bool false,.bool false,.bool false,.bool false,.bool false,.bool false,.bool false,.bool false,.bool false,.bool false,.bool false,.bool false,.bool false,.bool false,.bool false,.bool false,.bool false,.bool false,.bool false,.bool false,.bool false,.bool false,.bool false,.bool false,.bool false] := by rfl
theorem co_out {N : Nat} {Es : List Ed} (hG : GOK (N : Int) Es) (hE : Es.length < 1000000) (C O : List Int) (hC : Cso (nbF9 N Es) N C) (hO : ∀ v ∈ O,0 <= v /\ v < (N : Int)) (hl : O.length < 1000000) (i : Nat) (hi : i < O.length) : codeL cfgS 0 lQjX1 ⟨[(2,.ptr 0 0),(7,.own 1 (ints C)),(36,.list 1 (ints O)),(37,.int .i64 O.length),(38,.int .i64 i)],[some [.int .i64 N,.list 2 (eds Es)]]⟩ = some (.normal,⟨[(2,.ptr 0 0),(7,.own 1 (ints (stc (nbF9 N Es) C O[i]))),(36,.list 1 (ints O)),(37,.int .i64 O.length),(38,.int .i64 ((i + 1 : Nat) : Int))],[some [.int .i64 N,.list 2 (eds Es)]]⟩) := by
 have hN := hG.1.2;have nb := nbF9_ok hG;obtain ⟨v0,v1⟩ := hO O[i] (List.getElem_mem hi);obtain ⟨v,hv⟩ : ∃ v : Nat,O[i] = (v : Int) := ⟨O[i].toNat,by omega⟩;have vN : v < N := by omega
 have W64 := nb.len v vN;have gn := gnb_run hG hE vN;have lp := co_in (N : Int) (eds Es) C hC.rng (v : Int) (.list 1 (ints O)) O.length i (nbF9 N Es v) W64 (fun w hw => by rw [hC.len]; exact nb.rng v vN w hw) (nbF9 N Es v).length 0 (by omega);have c0 : cTk C (nbF9 N Es v) 0 = tkn [] := by unfold cTk; rw [List.take_zero]; rfl
 have c1 : cTk C (nbF9 N Es v) (nbF9 N Es v).length = tkn (ncl C (nbF9 N Es v)) := by unfold cTk; rw [List.take_length]
 have nl : (ncl C (nbF9 N Es v)).length < 65 := by have := ncl_len C (nbF9 N Es v); omega
 have ix := ixb_run _ nl
 have e : stc (nbF9 N Es) C O[i] = C.set v (mex (ncl C (nbF9 N Es v)) : Nat) := by
  unfold stc;rw [hv];rfl
 rw [e,ints_set9];rw [nat0,c1] at lp;unfold coSt at lp;rw [c0,tkn_nil] at lp;have lT : (bls (tkn (ncl C (nbF9 N Es v)))).length = 65 := by rw [bls_length]; exact tkn_len _
 have tT : (bls (tkn (ncl C (nbF9 N Es v)))).take 65 = bls (tkn (ncl C (nbF9 N Es v))) := List.take_of_length_le (by omega);have fT : frzCL (bls (tkn (ncl C (nbF9 N Es v)))) = some (bls (tkn (ncl C (nbF9 N Es v)))) := frz_bls _;change callL cfgS nQz _ [] = some (.list 1 (ints (nbF9 N Es v)),[]) at gn;generalize mex (ncl C (nbF9 N Es v)) = m at *;generalize bls (tkn (ncl C (nbF9 N Es v))) = T at *;have i1 : (i : Int) < O.length := by omega
 have wr := wrapS (i := i) (by omega);have go : ∀ h,(ints O)[i]'h = .int .i64 (v : Int) := fun h => by rw [intsAt,hv]
 have x1 : (v : Int) < C.length := by rw [hC.len]; omega
 have x2 : v < C.length := by rw [hC.len]; omega
 have lC := ints_length C;have lO := ints_length O;have lW := ints_length (nbF9 N Es v);have pW := plL_ints (nbF9 N Es v);have y5 : v < (ints C).length := by omega
 have dx : (ints C).drop v = .int .i64 C[v] :: (ints C).drop (v + 1) := by rw [List.drop_eq_getElem_cons y5,intsAt]
 have sx : (ints C).take v ++ .int .i64 (m : Int) :: (ints C).drop (v + 1) = (ints C).set v (.int .i64 (m : Int)) := by rw [List.set_eq_take_append_cons_drop,if_pos y5]
 generalize C[v] = z at dx;generalize nbF9 N Es v = W at *;generalize eds Es = Y at *;generalize ints C = C1 at *;generalize ints O = O1 at *;generalize ints W = W1 at *;unfold lQjX1;simp [rQjX0,rQjX1,rQjX2,rQjX3,rQjX4,rQjX5,rQjX6,rQjX7,rQjX8,rQjX9,rQjX10,rQjX11,rQjX12,rQjX13,rQjX14,rQjX15,rQjX16,rQjX17,rQjX18,rQjX19,i1,hi,wr,go,x1,x2,lC,lO,lW,pW,dx,sx,gn,lp,ix,lT,tT,fT,idx,blk,sQz,iQz,lQz,sQA,iQA,lQA,plp,plpL,plL,pl,allB,notBox,swC,swS,seesC,inBox]
/- Two sides, one first: two colours at most; a proper colouring stays proper without an edge. -/
theorem up_len2 : ∀ (l : List Int),Up l -> (∀ x ∈ l,0 <= x /\ x <= 1) -> l.length <= 2
 | [],_,_ => by simp
 | [x],_,_ => by simp
 | [x,y],_,_ => by simp
 | x :: y :: z :: r,h,b => by
   unfold Up at h;rw [List.pairwise_cons,List.pairwise_cons] at h;have h1 := h.1 y (by simp);have h2 := h.2.1 z (by simp);have b1 := b x (by simp);have b3 := b z (by simp);omega
theorem two_set {N : Nat} {Es : List Ed} (hG : GOK (N : Int) Es) (A B : List Int) (hA : ∀ v ∈ A,0 <= v /\ v < (N : Int)) (hB : ∀ v ∈ B,0 <= v /\ v < (N : Int)) (hd : ∀ v ∈ B,v ∉ A) (hall : ∀ i : Nat,i < N -> (i : Int) ∈ A \/ (i : Int) ∈ B) (hA1 : ∀ v ∈ A,∀ w,jn Es v w -> w ∉ A) (hB1 : ∀ v ∈ B,∀ w,jn Es v w -> w ∈ A) : (setOf (grc (nbF9 N Es) N (A ++ B))).length <= 2 := by
 have nb := nbF9_ok hG
 have mem : ∀ v,0 <= v /\ v < (N : Int) -> ∀ w ∈ nbF9 N Es v.toNat,jn Es v w /\ 0 <= w := by
  intro v hv w hw;have h1 := nb.rng v.toNat (by omega) w hw;have h2 := (nbr_mem hG (u := ((v.toNat : Nat) : Int)) (by omega) (by omega) w).1 hw;rw [show ((v.toNat : Nat) : Int) = v by omega] at h2;exact ⟨h2,h1.1⟩
 have z : ∀ i : Nat,(List.replicate N (-1 : Int)).getD i (-1) = -1 := by
  intro i;rw [List.getD_eq_getElem?_getD,List.getElem?_replicate];split <;> rfl
 obtain ⟨la,fa⟩ := two_a (N := N) A hA (fun v hv w hw => ⟨hA1 v hv w (mem v (hA v hv) w hw).1,(mem v (hA v hv) w hw).2⟩) A (List.replicate N (-1)) (fun v hv => hv) List.length_replicate (fun i => .inl (z i))
 have fb := two_b A nb.len B (A.foldl (stc (nbF9 N Es)) (List.replicate N (-1))) (fun v hv => ⟨hB v hv,hd v hv,fun w hw => ⟨hB1 v hv w (mem v (hB v hv) w hw).1,(mem v (hB v hv) w hw).2⟩⟩) la (fun i => by
  rcases fa i with q | ⟨_,q⟩ <;> rw [q] <;> exact ⟨by omega,fun _ => by omega⟩)
 have hO : ∀ v ∈ A ++ B,0 <= v /\ v < (N : Int) := fun v hv => (List.mem_append.1 hv).elim (hA v) (hB v);obtain ⟨ok,full⟩ := fold_ok nb (A ++ B) (List.replicate N (-1)) hO (cso_zero _ _);have e : grc (nbF9 N Es) N (A ++ B) = B.foldl (stc (nbF9 N Es)) (A.foldl (stc (nbF9 N Es)) (List.replicate N (-1))) := by unfold grc; rw [List.foldl_append]
 refine up_len2 _ (setOf_spec _).1 fun x hx => ?_;have hx := ((setOf_spec _).2 x).1 hx;obtain ⟨i,hi,rfl⟩ := List.getElem_of_mem hx;have lg : (grc (nbF9 N Es) N (A ++ B)).length = N := ok.len;have gd : (grc (nbF9 N Es) N (A ++ B)).getD i (-1) = (grc (nbF9 N Es) N (A ++ B))[i] := by rw [List.getD_eq_getElem?_getD,List.getElem?_eq_getElem hi]; rfl
 rw [<- gd];refine ⟨full i (by omega) (.inr ?_),by rw [e]; exact fb i⟩;exact (hall i (by omega)).elim (fun h => List.mem_append.2 (.inl h)) (fun h => List.mem_append.2 (.inr h))
theorem grc_proper {N : Nat} {Es : List Ed} (hG : GOK (N : Int) Es) (O : List Int) (hO : ∀ v ∈ O,0 <= v /\ v < (N : Int)) (hall : ∀ i : Nat,i < N -> (i : Int) ∈ O) : (grc (nbF9 N Es) N O).length = N /\ (∀ i : Nat,i < N -> 0 <= (grc (nbF9 N Es) N O).getD i (-1)) /\ ∀ e ∈ Es,(grc (nbF9 N Es) N O).getD e.1.toNat (-1) ≠ (grc (nbF9 N Es) N O).getD e.2.toNat (-1) := by
 have nb := nbF9_ok hG;obtain ⟨ok,full⟩ := fold_ok nb O (List.replicate N (-1)) hO (cso_zero _ _);refine ⟨ok.len,fun i hi => full i hi (.inr (hall i hi)),fun e he => ?_⟩;have b := hG.2.2 e he;have h1 : e.1.toNat < N := by omega
 have h2 : e.2.toNat < N := by omega
 refine ok.pro e.1.toNat e.2.toNat h1 h2 ?_ (full _ h1 (.inr (hall _ h1)));show ((e.2.toNat : Nat) : Int) ∈ nbr N Es ((e.1.toNat : Nat) : Int);rw [nbr_mem hG (by omega) (by omega),show ((e.1.toNat : Nat) : Int) = e.1 by omega,show ((e.2.toNat : Nat) : Int) = e.2 by omega];exact .inl he
/- What maxclique.Colour returns. -/
theorem co_loop {N : Nat} {Es : List Ed} (hG : GOK (N : Int) Es) (hE : Es.length < 1000000) (O : List Int) (hO : ∀ v ∈ O,0 <= v /\ v < (N : Int)) (hl : O.length < 1000000) : ∀ (k i : Nat) (C : List Int),i + k = O.length -> Cso (nbF9 N Es) N C -> codeL cfgS 0 (.loop lQjX1) ⟨[(2,.ptr 0 0),(7,.own 1 (ints C)),(36,.list 1 (ints O)),(37,.int .i64 O.length),(38,.int .i64 i)],[some [.int .i64 N,.list 2 (eds Es)]]⟩ = some (.exit 0,⟨[(2,.ptr 0 0),(7,.own 1 (ints ((O.drop i).foldl (stc (nbF9 N Es)) C))),(36,.list 1 (ints O)),(37,.int .i64 O.length),(38,.int .i64 O.length),(39,.bool false)],[some [.int .i64 N,.list 2 (eds Es)]]⟩)
 | 0,i,C,h,_ => by
   obtain rfl : i = O.length := by omega
   rw [List.drop_length,List.foldl_nil];refine loop_exit ?_;generalize ints C = C1;generalize ints O = O1;generalize eds Es = Y;unfold lQjX1;simp [rQjX0,rQjX1,rQjX2,rQjX3,rQjX4,rQjX5,rQjX6,rQjX7,rQjX8,rQjX9,rQjX10,rQjX11,rQjX12,rQjX13,rQjX14,rQjX15,rQjX16,rQjX17,rQjX18,rQjX19,blk]
 | k + 1,i,C,h,hC => by
   have hi : i < O.length := by omega
   rw [List.drop_eq_getElem_cons hi,List.foldl_cons];exact (loop_next (co_out hG hE C O hC hO hl i hi)).trans (co_loop hG hE O hO hl k (i + 1) _ (by omega) (stc_ok (nbF9_ok hG) hC (hO _ (List.getElem_mem hi))))
theorem colour_run {N : Nat} {Es : List Ed} (hG : GOK (N : Int) Es) (hE : Es.length < 1000000) (O : List Int) (hl : O.length = N) (hs : setOf O = rangeI N) (hO : ∀ v ∈ O,0 <= v /\ v < (N : Int)) : callL cfgS nQj [.agg [.int .i64 N,.list 2 (eds Es)],.list 1 (ints O)] [] = some (.tup [.list 1 (ints (grc (nbF9 N Es) N O)),.int .i64 0],[]) := by
 rw [callL_end oQj sQj (Nat.le_of_ble_eq_true rfl)];have hN := hG.1.2;have g := gchk_run N Es (by omega);rw [chkG_zero.2 hG] at g;have of := nof_run O (by omega);rw [hs] at of;have rg := nrange_run N;have rl : (rangeI (N : Int)).length < 4294967295 := by rw [<- hs]; have := setOf_len O; omega
 have eq := eql_run (rangeI (N : Int)) (rangeI (N : Int)) rl;rw [decide_eq_true rfl] at eq;have rp := rep_run N (by omega);have lp := co_loop hG hE O hO (by omega) O.length 0 (List.replicate N (-1)) (by omega) (cso_zero _ _);rw [List.drop_zero,nat0,hl] at lp;change codeL cfgS 0 _ _ = some (Ex.exit 0,(⟨[(2,.ptr 0 0),(7,.own 1 (ints (grc (nbF9 N Es) N O))),(36,.list 1 (ints O)),(37,.int .i64 N),(38,.int .i64 N),(39,.bool false)],[some [.int .i64 N,.list 2 (eds Es)]]⟩ : St)) at lp;have lg : (grc (nbF9 N Es) N O).length = N := (fold_ok (nbF9_ok hG) O _ hO (cso_zero _ _)).1.len;have tk : (ints (grc (nbF9 N Es) N O)).take N = ints (grc (nbF9 N Es) N O) := List.take_of_length_le (by rw [ints_length]; omega);have lO : (ints O).length = N := by rw [ints_length,hl]
 have lG : (ints (grc (nbF9 N Es) N O)).length = N := by rw [ints_length,lg]
 have pr := plL_ints (rangeI (N : Int));have pg := plL_ints (grc (nbF9 N Es) N O);have fg := flatCells_ints (grc (nbF9 N Es) N O);generalize ints (grc (nbF9 N Es) N O) = R1 at *;generalize ints (rangeI (N : Int)) = R2 at *;have cR := cleanL_ints (List.replicate N (-1));generalize ints (List.replicate N (-1)) = R3 at *;generalize ints O = O1 at *;generalize eds Es = Y at *;unfold qQj cQj;simp [rQjX0,rQjX1,rQjX2,rQjX3,rQjX4,rQjX5,rQjX6,rQjX7,rQjX8,rQjX9,rQjX10,rQjX11,rQjX12,rQjX13,rQjX14,rQjX15,rQjX16,rQjX17,rQjX18,rQjX19,g,cR,of,rg,eq,rp,lp,tk,lO,lG,pr,pg,fg,blk,endL,finB,plp,plpL,plL,pl,sQu,iQu,lQu,sQw,iQw,lQw,sQx,iQx,lQx,sQv,iQv,lQv,sQy,iQy,lQy]
/- What maxclique.Proper returns of a proper colouring: true. -/
theorem trim_self9 (env : Env) (H : Heap) : trim H.length env H.length H = H := by
 have : ∀ (l : Nat) (env : Env) (H : Heap),trim l env l H = H := by
  intro l env H;cases l with
  | zero => rfl
  | succ n => unfold trim; rw [if_neg (by omega)]
 exact this _ _ _
def Rest9 (R : Heap) : Prop := (∀ g,mapH g R = R) /\ allB R = true /\ (∀ p b,borH p b R = none) /\ (∀ f,anyH f R = false) /\ ∀ p b,seesB p b R = []
def prH (N : Int) (Y : List AV) (C : List Int) : Heap := [some [.int .i64 N,.list 2 Y],some [.list 1 (ints C)]]
theorem pr1_run (H : Heap) (hH : Rest9 H) (x : Int) (h : 0 <= x) : callL cfgS nQJ [.int .i64 x] H = some (.bool false,H) := by
 obtain ⟨r1,r2,r3,r4,r5⟩ := hH;have q : ¬ x < 0 := by omega
 rw [callL_end oQJ sQJ (Nat.le_of_ble_eq_true rfl)];unfold qQJ cQJ;simp [rQJX0,rQJX1,q,finS,plp,swS,r1,r2,r3,r4,r5,trim_self9,blk,eds_length,eds_get,edsAt,edAV,allLeaf_eds,cleanL_eds,cleanL_ints,ints_length,ints_get,intsAt,endL,finB]
theorem ix1_loop (N : Int) (Y : List AV) (C : List Int) (hl : C.length < 1000000) (h : ∀ x ∈ C,0 <= x) : ∀ n i : Nat,i + n = C.length -> codeL cfgS 2 (.loop lQYX0) ⟨[(0,.list 1 (ints C)),(1,.func (.func nQJ) [] []),(7,.int .i64 C.length),(8,.int .i64 i)],prH N Y C⟩ = some (.exit 0,⟨[(0,.list 1 (ints C)),(1,.func (.func nQJ) [] []),(7,.int .i64 C.length),(8,.int .i64 C.length),(9,.bool false)],prH N Y C⟩)
 | 0,i,e => by
   obtain rfl : i = C.length := by omega
   refine loop_exit ?_;unfold prH;generalize ints C = C1;unfold lQYX0;simp [rQYX0,rQYX1,rQYX2,rQYX3,rQYX4,rQYX5,rQYX6,rQYX7,blk]
 | n + 1,i,e => by
   have hi : i < C.length := by omega
   have i1 : (i : Int) < C.length := by omega
   have w := wrapS (i := i) (by omega);have cv := pr1_run (prH N Y C) ⟨fun _ => rfl,rfl,fun _ _ => rfl,fun _ => rfl,fun _ _ => rfl⟩ C[i] (h _ (List.getElem_mem hi));have g : ∀ h,(ints C)[i]'h = .int .i64 C[i] := fun h => intsAt _ _ _;have lC := ints_length C;have pC := plL_ints C;refine (loop_next ?_).trans (ix1_loop N Y C hl h n (i + 1) (by omega));unfold prH at cv ⊢;generalize C[i] = x at *;generalize ints C = C1 at *;unfold lQYX0;simp [rQYX0,rQYX1,rQYX2,rQYX3,rQYX4,rQYX5,rQYX6,rQYX7,i1,hi,w,cv,g,lC,pC,idx,blk,sQJ,iQJ,lQJ,plp,plpL,plL,pl,allB,notBox,swC,swS,seesC,inBox,offBoxes,offLab,calmB,ptrs,ptrsL,blkE,avE,avLE]
theorem pr2_run (N : Int) (Y : List AV) (C : List Int) (u v : Nat) (hu : u < C.length) (hv : v < C.length) (hl : C.length < 1000000) (hn : C.getD u (-1) ≠ C.getD v (-1)) : callL cfgS nQL [.agg [.int .i64 u,.int .i64 v],.ptr 1 0] (prH N Y C) = some (.bool false,prH N Y C) := by
 have g1 : C.getD u (-1) = C[u] := by rw [List.getD_eq_getElem?_getD,List.getElem?_eq_getElem hu]; rfl
 have g2 : C.getD v (-1) = C[v] := by rw [List.getD_eq_getElem?_getD,List.getElem?_eq_getElem hv]; rfl
 rw [g1,g2] at hn;have e1 : ∀ h,(ints C)[u]'h = .int .i64 C[u] := fun h => intsAt _ _ _;have e2 : ∀ h,(ints C)[v]'h = .int .i64 C[v] := fun h => intsAt _ _ _;have lC := ints_length C;have i1 : (u : Int) < C.length := by omega
 have i2 : (v : Int) < C.length := by omega
 rw [callL_end oQL sQL (Nat.le_of_ble_eq_true rfl)];unfold prH;generalize C[u] = x at *;generalize C[v] = y at *;generalize ints C = C1 at *;unfold qQL cQL;simp [rQLX0,rQLX1,hu,hv,hn,e1,e2,lC,i1,i2,idx,blk,endL,finB,finS,plp,plpL,plL,pl,mapH,mapBL,mapB,swS,noPtr,noPtrL,noPtrE,noPtrH]
theorem ix2_loop (N : Int) (Es : List Ed) (C : List Int) (hl : C.length < 1000000) (hE : Es.length < 1000000) (h : ∀ e ∈ Es,(0 <= e.1 /\ e.1 < C.length) /\ (0 <= e.2 /\ e.2 < C.length) /\ C.getD e.1.toNat (-1) ≠ C.getD e.2.toNat (-1)) (Y : List AV) : ∀ n i : Nat,i + n = Es.length -> codeL cfgS 2 (.loop lQZX0) ⟨[(0,.list 2 (eds Es)),(1,.func (.func nQL) [] [.ptr 1 0]),(7,.int .i64 Es.length),(8,.int .i64 i)],prH N Y C⟩ = some (.exit 0,⟨[(0,.list 2 (eds Es)),(1,.func (.func nQL) [] [.ptr 1 0]),(7,.int .i64 Es.length),(8,.int .i64 Es.length),(9,.bool false)],prH N Y C⟩)
 | 0,i,e => by
   obtain rfl : i = Es.length := by omega
   refine loop_exit ?_;unfold prH;have lE := eds_length Es;generalize eds Es = E1 at *;generalize ints C = C1;unfold lQZX0;simp [rQZX0,rQZX1,rQZX2,rQZX3,rQZX4,rQZX5,rQZX6,rQZX7,blk]
 | n + 1,i,e => by
   have hi : i < Es.length := by omega
   have i1 : (i : Int) < Es.length := by omega
   have w := wrapS (i := i) (by omega);obtain ⟨b1,b2,b3⟩ := h Es[i] (List.getElem_mem hi);obtain ⟨u,hu⟩ : ∃ u : Nat,Es[i].1 = (u : Int) := ⟨Es[i].1.toNat,by omega⟩;obtain ⟨v,hv⟩ : ∃ v : Nat,Es[i].2 = (v : Int) := ⟨Es[i].2.toNat,by omega⟩;have cv := pr2_run N Y C u v (by omega) (by omega) hl (by rw [hu,hv] at b3; exact b3);have g0 : (eds Es)[i]? = some (.agg [.int .i64 u,.int .i64 v]) := by rw [eds_get,List.getElem?_eq_getElem hi]; show some (AV.agg [.int .i64 Es[i].1,.int .i64 Es[i].2]) = _; rw [hu,hv]
   have g : ∀ h,(eds Es)[i]'h = .agg [.int .i64 u,.int .i64 v] := fun h => by rw [List.getElem?_eq_getElem h] at g0; exact Option.some.inj g0
   have lE := eds_length Es;refine (loop_next ?_).trans (ix2_loop N Es C hl hE h Y n (i + 1) (by omega));unfold prH at cv ⊢;generalize ints C = C1 at *;generalize eds Es = E1 at *;clear b1 b2 b3 hu hv;unfold lQZX0;simp [rQZX0,rQZX1,rQZX2,rQZX3,rQZX4,rQZX5,rQZX6,rQZX7,i1,hi,w,cv,g,g0,lE,idx,blk,sQL,iQL,lQL,plp,plpL,plL,pl,allB,notBox,swC,swS,seesC,inBox,offBoxes,offLab,calmB,ptrs,ptrsL,blkE,avE,avLE]
theorem cf1_run (N : Int) (Y : List AV) (C : List Int) (hl : C.length < 1000000) (h : ∀ x ∈ C,0 <= x) : callL cfgS nQI [.list 1 (ints C),.func (.func nQJ) [] []] (prH N Y C) = some (.bool false,prH N Y C) := by
 have i : callL cfgS nQY [.list 1 (ints C),.func (.func nQJ) [] []] (prH N Y C) = some (.int .i64 (-1),prH N Y C) := by
  have lp := ix1_loop N Y C hl h C.length 0 (by omega);rw [nat0] at lp;have lC := ints_length C;rw [callL_end oQY sQY (Nat.le_of_ble_eq_true rfl)];unfold prH at lp ⊢;generalize ints C = C1 at *;unfold qQY cQY;simp [rQYX0,rQYX1,rQYX2,rQYX3,rQYX4,rQYX5,rQYX6,rQYX7,lp,lC,blk,endL,finB,finS,plp,plpL,plL,pl,mapH,mapBL,mapB,swS,noPtr,noPtrL,noPtrE,noPtrH]
 have pC := plL_ints C;rw [callL_end oQI sQI (Nat.le_of_ble_eq_true rfl)];unfold prH at i ⊢;generalize ints C = C1 at *;unfold qQI cQI;simp [rQIX0,rQIX1,i,pC,blk,endL,finB,finS,plp,plpL,plL,pl,mapH,mapBL,mapB,swS,noPtr,noPtrL,noPtrE,noPtrH,sQY,iQY,lQY,allB,notBox,swC,seesC,inBox,offBoxes,offLab,calmB,ptrs,ptrsL,blkE,avE,avLE]
theorem plL_eds9 (l : List Ed) : plL (eds l) = true /\ plpL (eds l) = true := by
 induction l with
 | nil => exact ⟨rfl,rfl⟩
 | cons x r ih => exact ih
theorem cf2_run (N : Int) (Y : List AV) (Es : List Ed) (C : List Int) (hl : C.length < 1000000) (hE : Es.length < 1000000) (h : ∀ e ∈ Es,(0 <= e.1 /\ e.1 < C.length) /\ (0 <= e.2 /\ e.2 < C.length) /\ C.getD e.1.toNat (-1) ≠ C.getD e.2.toNat (-1)) : callL cfgS nQK [.list 2 (eds Es),.func (.func nQL) [] [.ptr 1 0]] (prH N Y C) = some (.bool false,prH N Y C) := by
 have i : callL cfgS nQZ [.list 2 (eds Es),.func (.func nQL) [] [.ptr 1 0]] (prH N Y C) = some (.int .i64 (-1),prH N Y C) := by
  have lp := ix2_loop N Es C hl hE h Y Es.length 0 (by omega);rw [nat0] at lp;have lE := eds_length Es;rw [callL_end oQZ sQZ (Nat.le_of_ble_eq_true rfl)];unfold prH at lp ⊢;generalize ints C = C1 at *;generalize eds Es = E1 at *;clear h;unfold qQZ cQZ;simp [rQZX0,rQZX1,rQZX2,rQZX3,rQZX4,rQZX5,rQZX6,rQZX7,lp,lE,blk,endL,finB,finS,plp,plpL,plL,pl,mapH,mapBL,mapB,swS,noPtr,noPtrL,noPtrE,noPtrH]
 have pC := plL_eds9 Es;rw [callL_end oQK sQK (Nat.le_of_ble_eq_true rfl)];unfold prH at i ⊢;generalize ints C = C1 at *;generalize eds Es = E1 at *;clear h;unfold qQK cQK;simp [rQKX0,rQKX1,i,pC.1,pC.2,blk,endL,finB,finS,plp,plpL,plL,pl,mapH,mapBL,mapB,swS,noPtr,noPtrL,noPtrE,noPtrH,sQZ,iQZ,lQZ,allB,notBox,swC,seesC,inBox,offBoxes,offLab,calmB,ptrs,ptrsL,blkE,avE,avLE]
theorem proper_run {N : Nat} {Es : List Ed} (hG : GOK (N : Int) Es) (hE : Es.length < 1000000) (C : List Int) (hl : C.length = N) (h0 : ∀ x ∈ C,0 <= x) (h : ∀ e ∈ Es,C.getD e.1.toNat (-1) ≠ C.getD e.2.toNat (-1)) : callL cfgS nQo [.agg [.int .i64 N,.list 2 (eds Es)],.list 1 (ints C)] [] = some (.bool true,[]) := by
 have hN := hG.1.2;have g := gchk_run N Es (by omega);rw [chkG_zero.2 hG] at g;have c1 := cf1_run N (eds Es) C (by omega) h0
 have c2 := cf2_run N (eds Es) Es C (by omega) hE (fun e he => by
  have b := hG.2.2 e he;exact ⟨⟨by omega,by omega⟩,⟨by omega,by omega⟩,h e he⟩)
 have lC : (ints C).length = N := by rw [ints_length,hl]
 have pC := plL_ints C;have pE := plL_eds9 Es;rw [callL_end oQo sQo (Nat.le_of_ble_eq_true rfl)];unfold prH at c1 c2;generalize ints C = C1 at *;generalize eds Es = Y at *;clear h h0;unfold qQo cQo;simp [rQoX0,rQoX1,rQoX2,rQoX3,g,c1,c2,lC,pC,pE.1,pE.2,blk,endL,finB,plp,plpL,plL,pl,sQu,iQu,lQu,sQI,iQI,lQI,sQK,iQK,lQK,allB,notBox,swC,swS,seesC,inBox,offBoxes,offLab,calmB,ptrs,ptrsL,blkE,avE,avLE]
end Go.BmP
