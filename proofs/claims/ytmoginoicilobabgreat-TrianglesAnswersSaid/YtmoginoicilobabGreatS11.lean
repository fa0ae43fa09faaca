/- What the reference counts: ref03 Common, ref29 Nodes, Count. -/
import Derived.Test.YtmoginoicilobabGreatUseM
import Derived.Test.YtmoginoicilobabGreatTnP
import Derived.Test.YtmoginoicilobabGreatT06
set_option linter.unusedSimpArgs false
set_option linter.unusedVariables false
set_option maxRecDepth 100000
set_option maxHeartbeats 4000000
open List renaming drop_eq_getElem_cons → bt, drop_length → dB, drop_zero → dN, eq_of_mem_replicate → lx, foldl_cons → de, foldl_nil → yp, getElem?_eq_getElem → ai, getElem_mem → cY, length_cons → bY, length_replicate → eH, map_cons → dR, replicate → aO, sum_cons → iX, take → fN, take_of_length_le → aL
open Nat renaming le_of_ble_eq_true → ae
open Option.some renaming inj → cK
namespace Go.BmP
open Go.Am Go.Bm
theorem Z6 {N : Nat} {Es : List Ed} (hG : gK (N : Int) Es) {u v : Int} (h : 0 <= u /\ u < N /\ 0 <= v /\ v < N) : meet (fF N Es u) (fF N Es v) = gF N Es (u,v) := by
 refine wi (vk _ _).1 (xZ hG (e := (u,v)) h) fun x => ?_;rw [(vk _ _).2,iV hG (e := (u,v)) h,nt hG h.1 h.2.1,nt hG h.2.2.1 h.2.2.2]
theorem Rc {N : Nat} {Es : List Ed} (hG : gK (N : Int) Es) (hE : Es.length < 1000000) {u v : Int} (h : 0 <= u /\ u < N /\ 0 <= v /\ v < N) (n : u ≠ v) : aY ak nQF [.agg [.int .i64 N,.list 2 (bm Es)],.int .i64 u,.int .i64 v] [] = some (.list 1 (ints (gF N Es (u,v))),[]) := by
 have hN := hG.1;have nu := oK hG hE h.1 h.2.1;have nv := oK hG hE h.2.2.1 h.2.2.2;have l1 := jq hG h.1 h.2.1;have l2 := jq hG h.2.2.1 h.2.2.2;have mt := Z5 (fF N Es u) (fF N Es v) (by omega) (by omega);rw [Z6 hG h] at mt;rw [aB oQF sQF (ae rfl)];unfold qQF cQF;generalize bm Es = Y at *;generalize ints (fF N Es u) = a at *;generalize ints (fF N Es v) = b at *;generalize ints (gF N Es (u,v)) = c at *;simp [aee,aed,aec,aeb,nu,nv,mt,n,aJ,sQ1,iQ1,lQ1,eQ1,sQ0,iQ0,lQ0,eQ0,dK,pl,ba,aZ]
def P4 (N : Nat) (Y : List AV) (n : List Int) (i : Nat) (S : List Int) (j : Nat) (J : Env) : St := ⟨(1,.ptr 0 0) :: (5,.own 1 (ints n)) :: (6,.int .i64 i) :: (7,.list 1 (ints S)) :: (8,.int .i64 j) :: J,[some [.int .i64 N,.list 2 Y]]⟩
theorem XG (N : Nat) (Y : List AV) (n : List Int) (i : Nat) (S : List Int) (j : Nat) (hj : j < S.length) (hS : S.length < 4294967295) (hw : 0 <= S[j] /\ S[j] < (n.length : Int)) (hn : ∀ x ∈ n,0 <= x /\ x < 4294967295) :
  bL ak 0 Og (P4 N Y n i S j []) = some (.normal,P4 N Y (ij n S[j]) i S (j + 1) []) := by
 obtain ⟨w,ew⟩ : ∃ w : Nat,S[j] = w := ⟨S[j].toNat,by omega⟩;have lw : w < n.length := by omega
 have k1 : (j : Int) < S.length := by omega
 have k2 : (w : Int) < n.length := by omega
 have VT := fT (i := j) (by omega);have hb := hn n[w] (cY lw);have T7 : IntKind.i64.wrap (n[w] + 1) = n[w] + 1 := cM (by omega) (by omega);have g3 : (ints S)[j]? = some (.int .i64 w) := by rw [aM,ai hj]; simp [ew]
 have g4 : ∀ h,(ints S)[j]'h = .int .i64 w := fun h => by rw [bk]; rw [ew]
 have g5 := aj S
 have b1 : (ints n).set w (.int .i64 (n[w] + 1)) = ints (ij n S[j]) := by
  unfold ij;rw [ew,show ((w : Int)).toNat = w by omega,List.getD_eq_getElem?_getD,ai lw];simp [ints,List.map_set]
 have g6 : (ints n)[w]? = some (.int .i64 n[w]) := by rw [aM,ai lw]; rfl
 have g7 : ∀ h,(ints n)[w]'h = .int .i64 n[w] := fun h => bk ..;have g8 := aj n;generalize ij n S[j] = n2 at *;generalize n[w] = x at *;unfold P4 Og;generalize ints n = NN at *;generalize ints S = SS at *;generalize ints n2 = N2 at *;simp [DX,DW,DV,DU,DT,DS,DR,DQ,DP,DO,wE,wC,wB,wA,k1,k2,hj,VT,T7,g3,g4,g5,b1,g6,g7,g8,lw,idx,aJ]
theorem R7 (M : Nat) (Y : List AV) (i : Nat) (S : List Int) (hS : S.length < 1000) (N : Nat) (hw : ∀ x ∈ S,0 <= x /\ x < (N : Int)) (K : Int) (hK : 0 <= K /\ K < 1000000000) : ∀ (k j : Nat) (n : List Int),j + k = S.length -> n.length = N -> (∀ x ∈ n,0 <= x /\ x <= K + j) ->
  bL ak 0 (.loop Og) (P4 M Y n i S j []) = some (.exit 2,P4 M Y ((S.drop j).foldl ij n) i S S.length [(41,.bool false)])
 | 0,j,n,hi,hn,hb => by
   obtain rfl : j = S.length := by omega
   rw [dB,yp];refine cj ?_;unfold P4 Og;have g5 := aj S;generalize ints n = NN at *;generalize ints S = SS at *;simp [DX,DW,DV,DU,DT,DS,DR,DQ,DP,DO,wE,wC,wB,wA,g5,aJ]
 | k + 1,j,n,hi,hn,hb => by
   have bO : j < S.length := by omega
   rw [bt bO,de];have hx := hw _ (cY bO);have ih := R7 M Y i S hS N hw K hK k (j + 1) (ij n S[j]) (by omega) (by rw [kK]; exact hn) (fun x hx => by have := KR (k := K + j) (by omega) hb x hx; omega);exact (bG (XG M Y n i S j bO (by omega) (by omega) (fun x hx => by have := hb x hx; omega))).trans ih
def XE (N : Nat) (Es : List Ed) (n : List Int) (i : Nat) (J : Env) : St := ⟨(1,.ptr 0 0) :: (5,.own 1 (ints n)) :: (6,.int .i64 i) :: J,[some [.int .i64 N,.list 2 (bm Es)]]⟩
theorem R4 {N : Nat} {Es : List Ed} (hG : gK (N : Int) Es) (hE : Es.length < 1000000) : ∀ (k i : Nat) (n : List Int),i + k = Es.length -> n.length = N -> (∀ x ∈ n,0 <= x /\ x <= (64 * i : Nat)) ->
  bL ak 0 (.loop TY) (XE N Es n i []) = some (.exit 0,XE N Es ((Es.drop i).foldl (fun n e => (gF N Es e).foldl ij n) n) Es.length [(21,.bool false)])
 | 0,i,n,hi,hn,hb => by
   obtain rfl : i = Es.length := by omega
   rw [dB,yp];refine cj ?_;unfold XE TY;have g5 := av Es;generalize ints n = NN at *;generalize bm Es = Y at *;simp [DX,DW,DV,DU,DT,DS,DR,DQ,DP,DO,wE,wC,wB,wA,g5,aJ]
 | k + 1,i,n,hi,hn,hb => by
   have bO : i < Es.length := by omega
   have he := hG.2.2 _ (cY bO);have hN := hG.1;have cl := nx hG (e := Es[i]) (by omega);have cm := iV hG (e := Es[i]) (by omega)
   have cw : ∀ x ∈ gF N Es Es[i],0 <= x /\ x < (N : Int) := fun x hx => by
    have := (oM hG ((cm x).1 hx).1).2.1; omega
   rw [bt bO,de];have ih := R4 hG hE k (i + 1) ((gF N Es Es[i]).foldl ij n) (by omega) (by rw [iW]; exact hn) (fun x hx => by have := uH _ _ (64 * i : Nat) (by omega) hb x hx; omega);refine (bG ?_).trans ih;clear ih;have lp := R7 N (bm Es) i (gF N Es Es[i]) (by omega) N cw (64 * i : Nat) (by omega) (gF N Es Es[i]).length 0 n (by omega) hn (fun x hx => by have := hb x hx; omega);rw [dN] at lp;have cr := Rc hG hE (u := Es[i].1) (v := Es[i].2) (by omega) (by omega);have k1 : (i : Int) < Es.length := by omega
   have hw := fT (i := i) (by omega);have g3 : (bm Es)[i]? = some (.agg [.int .i64 Es[i].1,.int .i64 Es[i].2]) := by rw [aX,ai bO]; simp [dj]
   have g4 : ∀ h,(bm Es)[i]'h = .agg [.int .i64 Es[i].1,.int .i64 Es[i].2] := fun h => by
    have := ai (l := bm Es) h;rw [g3] at this;exact (cK this).symm
   have g5 := av Es;unfold P4 at lp;rw [iR] at lp;unfold XE TY;rw [show (Es[i].1,Es[i].2) = Es[i] from rfl] at cr;generalize ints ((gF N Es Es[i]).foldl ij n) = N2 at *;generalize gF N Es Es[i] = S at *;generalize bm Es = Y at *;generalize ints n = NN at *;generalize ints S = SS at *;generalize Es[i].1 = eu at *;generalize Es[i].2 = ev at *;simp [DX,DW,DV,DU,DT,DS,DR,DQ,DP,DO,wE,wC,wB,wA,k1,bO,hw,g3,g4,g5,cr,lp,idx,aJ,sQF,iQF,lQF,eQF,dK,pl]
theorem mr {N : Nat} {Es : List Ed} (hG : gK (N : Int) Es) (hE : Es.length < 1000000) : aY ak Vs [.agg [.int .i64 N,.list 2 (bm Es)]] [] = some (.dD [.list 1 (ints (du N Es)),.int .i64 0],[]) := by
 have hN := hG.1;have g := kb N Es (by omega);rw [eK.2 hG] at g;have lp := R4 hG hE Es.length 0 (aO N 0) (by omega) (by simp) (fun x hx => by rw [lx hx]; omega);rw [dN] at lp;have eN : Es.foldl (fun n e => (gF N Es e).foldl ij n) (aO N 0) = du N Es := rfl;rw [eN] at lp;have lnN := cS N Es;have h0i : (N : Int) <= 4294967296 := by omega
 have h0 : N <= 4294967296 := by omega
 have rp : aO N (AV.int .i64 0) = ints (aO N 0) := by simp [ints]
 have tk : fN N (ints (du N Es)) = ints (du N Es) := aL (by rw [aj,lnN]; omega);have tk0 : fN N (ints (aO N 0)) = ints (aO N 0) := aL (by rw [aj,eH]; omega);have g6 : (ints (du N Es)).length = N := by rw [aj,lnN]
 have g7 : (ints (aO N 0)).length = N := by rw [aj,eH]
 unfold XE at lp;rw [iR] at lp;rw [aB oQm Xv (ae rfl)];unfold qQm cQm;generalize ints (du N Es) = tN at *;generalize ints (aO N 0) = t0 at *;generalize bm Es = Y at *;simp [DX,DW,DV,DU,DT,DS,DR,DQ,DP,DO,wE,wC,wB,wA,g,lp,h0i,h0,rp,tk,tk0,g6,g7,jQ,aJ,U7,WO,WN,WR,dK,pl,ba,aZ]
theorem U2 {n : List Int} {w : Int} (h0 : 0 <= w) (h1 : w < n.length) : (ij n w).sum = n.sum + 1 := by
 obtain ⟨k,rfl⟩ : ∃ k : Nat,w = k := ⟨w.toNat,by omega⟩;unfold ij;rw [show ((k : Int)).toNat = k by omega]
 have : ∀ (n : List Int) (k : Nat),k < n.length -> (n.set k (n.getD k 0 + 1)).sum = n.sum + 1 := by
  intro n
  induction n with
  | nil => intro k h; simp at h
  | cons a r ih =>
    intro k h;cases k with
    | zero => simp; omega
    | succ k => have := ih k (by simpa using h); simp at this ⊢; omega
 exact this n k (by omega)
theorem Dv : ∀ {S n : List Int},(∀ x ∈ S,0 <= x /\ x < (n.length : Int)) -> (S.foldl ij n).sum = n.sum + S.length
 | [],n,_ => by simp
 | w :: r,n,h => by
   have hw := h w (by simp);rw [de,Dv (fun x hx => by rw [kK]; exact h x (by simp [hx])),U2 hw.1 hw.2];simp only [bY]; omega
theorem UX {N : Nat} {Es : List Ed} (hG : gK (N : Int) Es) : (du N Es).sum = (fw N Es : Int) := by
 have : ∀ (l : List Ed) (n : List Int),(∀ e ∈ l,e ∈ Es) -> n.length = N -> (l.foldl (fun n e => (gF N Es e).foldl ij n) n).sum = n.sum + ((l.map fun e => (gF N Es e).length).sum : Nat) := by
  intro l
  induction l with
  | nil => intro n _ _; simp
  | cons e r ih =>
    intro n h hn;have he := hG.2.2 e (h e (by simp));have cm := iV hG (e := e) (by omega);rw [de,ih _ (fun x hx => h x (by simp [hx])) (by rw [iW]; exact hn),Dv fun x hx => ?_,dR,iX]
    ·omega
    ·have := (oM hG ((cm x).1 hx).1).2.1; omega
 have h := this Es (aO N 0) (fun _ h => h) (by simp)
 have z : ∀ k,(aO k (0 : Int)).sum = 0 := by
  intro k
  induction k with
  | zero => rfl
  | succ j ihj => rw [List.replicate_succ,iX,ihj]; rfl
 rw [z N,Int.zero_add] at h;exact h
def Vd (l : List Int) (e s : Int) (i : Nat) (J : Env) : St := ⟨(4,.list 1 (ints l)) :: (5,.int .i64 e) :: (6,.int .i64 s) :: (7,.int .i64 i) :: J,[]⟩
theorem Jl (l : List Int) (hl : l.length < 1000) (e : Int) (hb : ∀ x ∈ l,0 <= x /\ x <= 100000000) : ∀ (k i : Nat) (s : Int),i + k = l.length -> 0 <= s /\ s <= 100000000 * i -> bL ak 0 (.loop TZ) (Vd l e s i []) = some (.exit 0,Vd l e (s + (l.drop i).sum) l.length [(16,.bool false)])
 | 0,i,s,hi,hs => by
   obtain rfl : i = l.length := by omega
   rw [dB,List.sum_nil,Int.add_zero];refine cj ?_;unfold Vd TZ;have g5 := aj l;generalize ints l = L at *;simp [Nc,Na,M9,M8,M7,M6,M5,M4,g5]
 | k + 1,i,s,hi,hs => by
   have bO : i < l.length := by omega
   have hx := hb _ (cY bO);have ih := Jl l hl e hb k (i + 1) (s + l[i]) (by omega) (by omega);rw [bt bO,iX,<- Int.add_assoc];refine (bG ?_).trans ih;clear ih;have k1 : (i : Int) < l.length := by omega
   have hw := fT (i := i) (by omega);have w1 : IntKind.i64.wrap (s + l[i]) = s + l[i] := cM (by omega) (by omega);have g3 : (ints l)[i]? = some (.int .i64 l[i]) := by rw [aM,ai bO]; rfl
   have g4 : ∀ h,(ints l)[i]'h = .int .i64 l[i] := fun h => bk ..;have g5 := aj l;unfold Vd TZ;generalize l[i] = x at *;generalize ints l = L at *;simp [Nc,Na,M9,M8,M7,M6,M5,M4,k1,bO,hw,w1,g3,g4,g5,idx]
theorem Xg {N : Nat} {Es : List Ed} (hG : gK (N : Int) Es) : fw N Es <= 64 * Es.length := by
 unfold fw;have hN := hG.1
 have : ∀ l : List Ed,(∀ e ∈ l,e ∈ Es) -> (l.map fun e => (gF N Es e).length).sum <= 64 * l.length := by
  intro l
  induction l with
  | nil => intro _; simp
  | cons e r ih =>
    intro h;have he := hG.2.2 e (h e (by simp));have := nx hG (e := e) (by omega);have := ih fun x hx => h x (by simp [hx]);simp only [dR,iX,bY];omega
 exact this Es fun e h => h
theorem Xh {N : Nat} {Es : List Ed} (hG : gK (N : Int) Es) : ∀ x ∈ du N Es,0 <= x /\ x <= (64 * Es.length : Nat) := by
 have hN := hG.1
 have : ∀ (l : List Ed) (n : List Int) (k : Nat),(∀ e ∈ l,e ∈ Es) -> (∀ x ∈ n,0 <= x /\ x <= (k : Int)) -> ∀ x ∈ l.foldl (fun n e => (gF N Es e).foldl ij n) n,0 <= x /\ x <= ((k + 64 * l.length : Nat) : Int) := by
  intro l
  induction l with
  | nil => intro n k _ h; simpa using h
  | cons e r ih =>
    intro n k h hn x hx;have he := hG.2.2 e (h e (by simp));have cl := nx hG (e := e) (by omega);rw [de] at hx;have := ih _ (k + 64) (fun y hy => h y (by simp [hy])) (fun y hy => by have := uH _ _ (k : Int) (by omega) hn y hy; omega) x hx;simp only [bY];omega
 intro x hx;have := this Es (aO N 0) 0 (fun _ h => h) (fun y hy => by rw [lx hy]; omega) x hx;omega
theorem uB {N : Nat} {Es : List Ed} (hG : gK (N : Int) Es) (hE : Es.length < 1000000) : aY ak WL [.agg [.int .i64 N,.list 2 (bm Es)]] [] = some (.dD [.int .i64 (j7 N Es),.int .i64 0],[]) := by
 have hN := hG.1;have nr := mr hG hE;have lp := Jl (du N Es) (by rw [cS]; omega) 0 (fun x hx => by have := Xh hG x hx; omega) (du N Es).length 0 0 (by omega) (by omega);rw [dN,Int.zero_add,UX hG] at lp;have bd := Xg hG;have q := pj hG
 have q3 : IntKind.i64.wrap ((fw N Es : Int).tdiv 3) = (j7 N Es : Int) := by
  rw [Int.tdiv_eq_ediv_of_nonneg (by omega),q,cM (by omega) (by omega)]
 have q4 : IntKind.i64.wrap ((fw N Es : Int) / 3) = (j7 N Es : Int) := by
  rw [q,cM (by omega) (by omega)]
 unfold Vd at lp;rw [iR] at lp;rw [aB oQk sQk (ae rfl)];unfold qQk cQk;generalize (fw N Es : Int) = ts at *;generalize (j7 N Es : Int) = t3 at *;generalize ints (du N Es) = tN at *;generalize bm Es = Y at *;simp [Nc,Na,M9,M8,M7,M6,M5,M4,nr,lp,q3,q4,aJ,Xv,iQm,lQm,eQm,dK,pl,ba,aZ]
end Go.BmP
