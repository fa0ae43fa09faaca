/- What the reference counts: ref03 Common, ref29 Nodes, Count. -/
import Derived.Test.YtmoginoicilobaaGreatDoorUseM
import Derived.Test.YtmoginoicilobaaGreatDoorWdgP
import Derived.Test.YtmoginoicilobaaGreatDoorT06
set_option linter.unusedSimpArgs false
set_option linter.unusedVariables false
set_option maxRecDepth 100000
set_option maxHeartbeats 4000000
open List renaming drop_eq_getElem_cons → aP, drop_length → cz, drop_zero → b9, eq_of_mem_replicate → mL, foldl_cons → dF, foldl_nil → yI, getElem?_eq_getElem → af, getElem_mem → cG, length_cons → b7, length_replicate → dT, map_cons → dN, replicate → aM, sum_cons → tT, take → fe, take_of_length_le → aL
open Nat renaming le_of_ble_eq_true → ab
open Option.some renaming inj → bU
namespace Go.BmP
open Go.Am Go.Bm
theorem Yo {N : Nat} {Es : List Ed} (hG : kC (N : Int) Es) {u v : Int} (h : 0 <= u /\ u < N /\ 0 <= v /\ v < N) : meet (ph N Es u) (ph N Es v) = qW N Es (u,v) := by
 refine uf (wx _ _).1 (ZI hG (e := (u,v)) h) fun x => ?_;rw [(wx _ _).2,Ac hG (e := (u,v)) h,o9 hG h.1 h.2.1,o9 hG h.2.2.1 h.2.2.2]
theorem P9 {N : Nat} {Es : List Ed} (hG : kC (N : Int) Es) (hE : Es.length < 1000000) {u v : Int} (h : 0 <= u /\ u < N /\ 0 <= v /\ v < N) (n : u ≠ v) : bf aj PE [.agg [.int .i64 N,.list 2 (bc Es)],.int .i64 u,.int .i64 v] [] = some (.list 1 (ints (qW N Es (u,v))),[]) := by
 have hN := hG.1;have nu := pG hG hE h.1 h.2.1;have nv := pG hG hE h.2.2.1 h.2.2.2;have l1 := qA hG h.1 h.2.1;have l2 := qA hG h.2.2.1 h.2.2.2;have mt := Yn (ph N Es u) (ph N Es v) (by omega) (by omega);rw [Yo hG h] at mt;rw [aB oQa1 sQa1 (ab rfl)];unfold qQa1 cQa1;generalize bc Es = Y at *;generalize ints (ph N Es u) = a at *;generalize ints (ph N Es v) = b at *;generalize ints (qW N Es (u,v)) = c at *;simp [Xx,Xw,Xv,Xu,nu,nv,mt,n,aJ,sQQ,iQQ,lQQ,sQb4,iQb4,lQb4,df,pl,aY,aV]
def OM (N : Nat) (Y : List AV) (n : List Int) (i : Nat) (S : List Int) (j : Nat) (J : Env) : St := ⟨(1,.ptr 0 0) :: (5,.own 1 (ints n)) :: (6,.int .i64 i) :: (7,.list 1 (ints S)) :: (8,.int .i64 j) :: J,[some [.int .i64 N,.list 2 Y]]⟩
theorem WD (N : Nat) (Y : List AV) (n : List Int) (i : Nat) (S : List Int) (j : Nat) (hj : j < S.length) (hS : S.length < 4294967295) (hw : 0 <= S[j] /\ S[j] < (n.length : Int)) (hn : ∀ x ∈ n,0 <= x /\ x < 4294967295) :
  bj aj 0 M3 (OM N Y n i S j []) = some (.normal,OM N Y (bump n S[j]) i S (j + 1) []) := by
 obtain ⟨w,ew⟩ : ∃ w : Nat,S[j] = w := ⟨S[j].toNat,by omega⟩;have lw : w < n.length := by omega
 have k1 : (j : Int) < S.length := by omega
 have k2 : (w : Int) < n.length := by omega
 have Y8 := dw (i := j) (by omega);have hb := hn n[w] (cG lw);have YY : IntKind.i64.wrap (n[w] + 1) = n[w] + 1 := cS (by omega) (by omega);have g3 : (ints S)[j]? = some (.int .i64 w) := by rw [aI,af hj]; simp [ew]
 have g4 : ∀ h,(ints S)[j]'h = .int .i64 w := fun h => by rw [aT]; rw [ew]
 have g5 := ae S
 have b1 : (ints n).set w (.int .i64 (n[w] + 1)) = ints (bump n S[j]) := by
  unfold bump;rw [ew,show ((w : Int)).toNat = w by omega,List.getD_eq_getElem?_getD,af lw];simp [ints,List.map_set]
 have g6 : (ints n)[w]? = some (.int .i64 n[w]) := by rw [aI,af lw]; rfl
 have g7 : ∀ h,(ints n)[w]'h = .int .i64 n[w] := fun h => aT ..;have g8 := ae n;generalize bump n S[j] = n2 at *;generalize n[w] = x at *;unfold OM M3;generalize ints n = NN at *;generalize ints S = SS at *;generalize ints n2 = N2 at *;simp [H0,HZ,HY,HX,HV,HU,HT,HS,HR,HQ,AM,AL,AK,AJ,k1,k2,hj,Y8,YY,g3,g4,g5,b1,g6,g7,g8,lw,idx,aJ]
theorem QT (M : Nat) (Y : List AV) (i : Nat) (S : List Int) (hS : S.length < 1000) (N : Nat) (hw : ∀ x ∈ S,0 <= x /\ x < (N : Int)) (K : Int) (hK : 0 <= K /\ K < 1000000000) : ∀ (k j : Nat) (n : List Int),j + k = S.length -> n.length = N -> (∀ x ∈ n,0 <= x /\ x <= K + j) ->
  bj aj 0 (.loop M3) (OM M Y n i S j []) = some (.exit 2,OM M Y ((S.drop j).foldl bump n) i S S.length [(41,.bool false)])
 | 0,j,n,hi,hn,hb => by
   obtain rfl : j = S.length := by omega
   rw [cz,yI];refine bm ?_;unfold OM M3;have g5 := ae S;generalize ints n = NN at *;generalize ints S = SS at *;simp [H0,HZ,HY,HX,HV,HU,HT,HS,HR,HQ,AM,AL,AK,AJ,g5,aJ]
 | k + 1,j,n,hi,hn,hb => by
   have bz : j < S.length := by omega
   rw [aP bz,dF];have hx := hw _ (cG bz);have ih := QT M Y i S hS N hw K hK k (j + 1) (bump n S[j]) (by omega) (by rw [qI]; exact hn) (fun x hx => by have := K6 (k := K + j) (by omega) hb x hx; omega);exact (aR (WD M Y n i S j bz (by omega) (by omega) (fun x hx => by have := hb x hx; omega))).trans ih
def WB (N : Nat) (Es : List Ed) (n : List Int) (i : Nat) (J : Env) : St := ⟨(1,.ptr 0 0) :: (5,.own 1 (ints n)) :: (6,.int .i64 i) :: J,[some [.int .i64 N,.list 2 (bc Es)]]⟩
theorem QR {N : Nat} {Es : List Ed} (hG : kC (N : Int) Es) (hE : Es.length < 1000000) : ∀ (k i : Nat) (n : List Int),i + k = Es.length -> n.length = N -> (∀ x ∈ n,0 <= x /\ x <= (64 * i : Nat)) ->
  bj aj 0 (.loop Tg) (WB N Es n i []) = some (.exit 0,WB N Es ((Es.drop i).foldl (fun n e => (qW N Es e).foldl bump n) n) Es.length [(21,.bool false)])
 | 0,i,n,hi,hn,hb => by
   obtain rfl : i = Es.length := by omega
   rw [cz,yI];refine bm ?_;unfold WB Tg;have g5 := au Es;generalize ints n = NN at *;generalize bc Es = Y at *;simp [H0,HZ,HY,HX,HV,HU,HT,HS,HR,HQ,AM,AL,AK,AJ,g5,aJ]
 | k + 1,i,n,hi,hn,hb => by
   have bz : i < Es.length := by omega
   have he := hG.2.2 _ (cG bz);have hN := hG.1;have cl := wM hG (e := Es[i]) (by omega);have cm := Ac hG (e := Es[i]) (by omega)
   have cw : ∀ x ∈ qW N Es Es[i],0 <= x /\ x < (N : Int) := fun x hx => by
    have := (zQ hG ((cm x).1 hx).1).2.1; omega
   rw [aP bz,dF];have ih := QR hG hE k (i + 1) ((qW N Es Es[i]).foldl bump n) (by omega) (by rw [mD]; exact hn) (fun x hx => by have := Af _ _ (64 * i : Nat) (by omega) hb x hx; omega);refine (aR ?_).trans ih;clear ih;have lp := QT N (bc Es) i (qW N Es Es[i]) (by omega) N cw (64 * i : Nat) (by omega) (qW N Es Es[i]).length 0 n (by omega) hn (fun x hx => by have := hb x hx; omega);rw [b9] at lp;have cr := P9 hG hE (u := Es[i].1) (v := Es[i].2) (by omega) (by omega);have k1 : (i : Int) < Es.length := by omega
   have hw := dw (i := i) (by omega);have g3 : (bc Es)[i]? = some (.agg [.int .i64 Es[i].1,.int .i64 Es[i].2]) := by rw [aO,af bz]; simp [cB]
   have g4 : ∀ h,(bc Es)[i]'h = .agg [.int .i64 Es[i].1,.int .i64 Es[i].2] := fun h => by
    have := af (l := bc Es) h;rw [g3] at this;exact (bU this).symm
   have g5 := au Es;unfold OM at lp;rw [iB] at lp;unfold WB Tg;rw [show (Es[i].1,Es[i].2) = Es[i] from rfl] at cr;generalize ints ((qW N Es Es[i]).foldl bump n) = N2 at *;generalize qW N Es Es[i] = S at *;generalize bc Es = Y at *;generalize ints n = NN at *;generalize ints S = SS at *;generalize Es[i].1 = eu at *;generalize Es[i].2 = ev at *;simp [H0,HZ,HY,HX,HV,HU,HT,HS,HR,HQ,AM,AL,AK,AJ,k1,bz,hw,g3,g4,g5,cr,lp,idx,aJ,sQa1,iQa1,lQa1,df,pl]
theorem Mz {N : Nat} {Es : List Ed} (hG : kC (N : Int) Es) (hE : Es.length < 1000000) : bf aj nQX [.agg [.int .i64 N,.list 2 (bc Es)]] [] = some (.dp [.list 1 (ints (rf N Es)),.int .i64 0],[]) := by
 have hN := hG.1;have g := j5 N Es (by omega);rw [dW.2 hG] at g;have lp := QR hG hE Es.length 0 (aM N 0) (by omega) (by simp) (fun x hx => by rw [mL hx]; omega);rw [b9] at lp;have eN : Es.foldl (fun n e => (qW N Es e).foldl bump n) (aM N 0) = rf N Es := rfl;rw [eN] at lp;have lnN := ug N Es;have h0i : (N : Int) <= 4294967296 := by omega
 have h0 : N <= 4294967296 := by omega
 have rp : aM N (AV.int .i64 0) = ints (aM N 0) := by simp [ints]
 have tk : fe N (ints (rf N Es)) = ints (rf N Es) := aL (by rw [ae,lnN]; omega);have tk0 : fe N (ints (aM N 0)) = ints (aM N 0) := aL (by rw [ae,dT]; omega);have g6 : (ints (rf N Es)).length = N := by rw [ae,lnN]
 have g7 : (ints (aM N 0)).length = N := by rw [ae,dT]
 unfold WB at lp;rw [iB] at lp;rw [aB oQX sQX (ab rfl)];unfold qQX cQX;generalize ints (rf N Es) = tN at *;generalize ints (aM N 0) = t0 at *;generalize bc Es = Y at *;simp [H0,HZ,HY,HX,HV,HU,HT,HS,HR,HQ,AM,AL,AK,AJ,g,lp,h0i,h0,rp,tk,tk0,g6,g7,kR,aJ,G8,IL,II,df,pl,aY,aV]
theorem Uh {n : List Int} {w : Int} (h0 : 0 <= w) (h1 : w < n.length) : (bump n w).sum = n.sum + 1 := by
 obtain ⟨k,rfl⟩ : ∃ k : Nat,w = k := ⟨w.toNat,by omega⟩;unfold bump;rw [show ((k : Int)).toNat = k by omega]
 have : ∀ (n : List Int) (k : Nat),k < n.length -> (n.set k (n.getD k 0 + 1)).sum = n.sum + 1 := by
  intro n
  induction n with
  | nil => intro k h; simp at h
  | cons a r ih =>
    intro k h;cases k with
    | zero => simp; omega
    | succ k => have := ih k (by simpa using h); simp at this ⊢; omega
 exact this n k (by omega)
theorem DQ : ∀ {S n : List Int},(∀ x ∈ S,0 <= x /\ x < (n.length : Int)) -> (S.foldl bump n).sum = n.sum + S.length
 | [],n,_ => by simp
 | w :: r,n,h => by
   have hw := h w (by simp);rw [dF,DQ (fun x hx => by rw [qI]; exact h x (by simp [hx])),Uh hw.1 hw.2];simp only [b7]; omega
theorem Ub {N : Nat} {Es : List Ed} (hG : kC (N : Int) Es) : (rf N Es).sum = (qM N Es : Int) := by
 have : ∀ (l : List Ed) (n : List Int),(∀ e ∈ l,e ∈ Es) -> n.length = N -> (l.foldl (fun n e => (qW N Es e).foldl bump n) n).sum = n.sum + ((l.map fun e => (qW N Es e).length).sum : Nat) := by
  intro l
  induction l with
  | nil => intro n _ _; simp
  | cons e r ih =>
    intro n h hn;have he := hG.2.2 e (h e (by simp));have cm := Ac hG (e := e) (by omega);rw [dF,ih _ (fun x hx => h x (by simp [hx])) (by rw [mD]; exact hn),DQ fun x hx => ?_,dN,tT]
    ·omega
    ·have := (zQ hG ((cm x).1 hx).1).2.1; omega
 have h := this Es (aM N 0) (fun _ h => h) (by simp)
 have z : ∀ k,(aM k (0 : Int)).sum = 0 := by
  intro k
  induction k with
  | zero => rfl
  | succ j ihj => rw [List.replicate_succ,tT,ihj]; rfl
 rw [z N,Int.zero_add] at h;exact h
def WR (l : List Int) (e s : Int) (i : Nat) (J : Env) : St := ⟨(4,.list 1 (ints l)) :: (5,.int .i64 e) :: (6,.int .i64 s) :: (7,.int .i64 i) :: J,[]⟩
theorem QZ (l : List Int) (hl : l.length < 1000) (e : Int) (hb : ∀ x ∈ l,0 <= x /\ x <= 100000000) : ∀ (k i : Nat) (s : Int),i + k = l.length -> 0 <= s /\ s <= 100000000 * i -> bj aj 0 (.loop Tl) (WR l e s i []) = some (.exit 0,WR l e (s + (l.drop i).sum) l.length [(16,.bool false)])
 | 0,i,s,hi,hs => by
   obtain rfl : i = l.length := by omega
   rw [cz,List.sum_nil,Int.add_zero];refine bm ?_;unfold WR Tl;have g5 := ae l;generalize ints l = L at *;simp [Sh,Sg,Sf,Se,Sd,Sc,Sb,Sa,g5]
 | k + 1,i,s,hi,hs => by
   have bz : i < l.length := by omega
   have hx := hb _ (cG bz);have ih := QZ l hl e hb k (i + 1) (s + l[i]) (by omega) (by omega);rw [aP bz,tT,<- Int.add_assoc];refine (aR ?_).trans ih;clear ih;have k1 : (i : Int) < l.length := by omega
   have hw := dw (i := i) (by omega);have w1 : IntKind.i64.wrap (s + l[i]) = s + l[i] := cS (by omega) (by omega);have g3 : (ints l)[i]? = some (.int .i64 l[i]) := by rw [aI,af bz]; rfl
   have g4 : ∀ h,(ints l)[i]'h = .int .i64 l[i] := fun h => aT ..;have g5 := ae l;unfold WR Tl;generalize l[i] = x at *;generalize ints l = L at *;simp [Sh,Sg,Sf,Se,Sd,Sc,Sb,Sa,k1,bz,hw,w1,g3,g4,g5,idx]
theorem V9 {N : Nat} {Es : List Ed} (hG : kC (N : Int) Es) : qM N Es <= 64 * Es.length := by
 unfold qM;have hN := hG.1
 have : ∀ l : List Ed,(∀ e ∈ l,e ∈ Es) -> (l.map fun e => (qW N Es e).length).sum <= 64 * l.length := by
  intro l
  induction l with
  | nil => intro _; simp
  | cons e r ih =>
    intro h;have he := hG.2.2 e (h e (by simp));have := wM hG (e := e) (by omega);have := ih fun x hx => h x (by simp [hx]);simp only [dN,tT,b7];omega
 exact this Es fun e h => h
theorem Wa {N : Nat} {Es : List Ed} (hG : kC (N : Int) Es) : ∀ x ∈ rf N Es,0 <= x /\ x <= (64 * Es.length : Nat) := by
 have hN := hG.1
 have : ∀ (l : List Ed) (n : List Int) (k : Nat),(∀ e ∈ l,e ∈ Es) -> (∀ x ∈ n,0 <= x /\ x <= (k : Int)) -> ∀ x ∈ l.foldl (fun n e => (qW N Es e).foldl bump n) n,0 <= x /\ x <= ((k + 64 * l.length : Nat) : Int) := by
  intro l
  induction l with
  | nil => intro n k _ h; simpa using h
  | cons e r ih =>
    intro n k h hn x hx;have he := hG.2.2 e (h e (by simp));have cl := wM hG (e := e) (by omega);rw [dF] at hx;have := ih _ (k + 64) (fun y hy => h y (by simp [hy])) (fun y hy => by have := Af _ _ (k : Int) (by omega) hn y hy; omega) x hx;simp only [b7];omega
 intro x hx;have := this Es (aM N 0) 0 (fun _ h => h) (fun y hy => by rw [mL hy]; omega) x hx;omega
theorem CP {N : Nat} {Es : List Ed} (hG : kC (N : Int) Es) (hE : Es.length < 1000000) : bf aj nQI [.agg [.int .i64 N,.list 2 (bc Es)]] [] = some (.dp [.int .i64 (N5 N Es),.int .i64 0],[]) := by
 have hN := hG.1;have nr := Mz hG hE;have lp := QZ (rf N Es) (by rw [ug]; omega) 0 (fun x hx => by have := Wa hG x hx; omega) (rf N Es).length 0 0 (by omega) (by omega);rw [b9,Int.zero_add,Ub hG] at lp;have bd := V9 hG;have q := JF hG
 have q3 : IntKind.i64.wrap ((qM N Es : Int).tdiv 3) = (N5 N Es : Int) := by
  rw [Int.tdiv_eq_ediv_of_nonneg (by omega),q,cS (by omega) (by omega)]
 have q4 : IntKind.i64.wrap ((qM N Es : Int) / 3) = (N5 N Es : Int) := by
  rw [q,cS (by omega) (by omega)]
 unfold WR at lp;rw [iB] at lp;rw [aB oQI sQI (ab rfl)];unfold qQI cQI;generalize (qM N Es : Int) = ts at *;generalize (N5 N Es : Int) = t3 at *;generalize ints (rf N Es) = tN at *;generalize bc Es = Y at *;simp [Sh,Sg,Sf,Se,Sd,Sc,Sb,Sa,nr,lp,q3,q4,aJ,sQX,iQX,lQX,df,pl,aY,aV]
end Go.BmP
