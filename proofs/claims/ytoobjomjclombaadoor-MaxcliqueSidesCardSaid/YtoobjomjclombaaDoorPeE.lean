/- core.peel: a neighbour's number falls by one (the inner loop). -/
import Derived.Test.YtoobjomjclombaaDoorUseM
import Derived.Test.YtoobjomjclombaaDoorPeP
import Derived.Test.YtoobjomjclombaaDoorCoV
import Derived.Test.YtoobjomjclombaaDoorRwP
import Derived.Test.YtoobjomjclombaaDoorRunX
import Derived.Test.YtoobjomjclombaaDoorRvG
set_option linter.unusedSimpArgs false
set_option linter.unusedVariables false
set_option maxRecDepth 100000
set_option maxHeartbeats 8000000
namespace Go.BmP
open Go.Am Go.Bm
def ns (l : List Nat) : List Int := l.map fun n => ((n : Nat) : Int)
theorem ints_setA (L : List Int) (i : Nat) (x : Int) : ints (L.set i x) = (ints L).set i (.int .i64 x) := by unfold ints; rw [List.map_set]
theorem ns_length (l : List Nat) : (ns l).length = l.length := List.length_map _
theorem ns_at (l : List Nat) (i : Nat) (h : i < l.length) (h2 : i < (ints (ns l)).length) : (ints (ns l))[i] = .int .i64 (l.getD i 0 : Nat) := by
 rw [intsAt];simp [ns,List.getD_eq_getElem?_getD,List.getElem?_eq_getElem h]
theorem ns_set (l : List Nat) (i x : Nat) : ints (ns (l.set i x)) = (ints (ns l)).set i (.int .i64 (x : Int)) := by simp [ns,ints,List.map_set]
theorem us_at9 (l : List Nat) (i : Nat) (h : i < l.length) (h2 : i < (us l).length) : (us l)[i] = .int .u64 (l.getD i 0 : Nat) := by
 have g : (us l)[i]? = some (.int .u64 (l.getD i 0 : Nat)) := by
  rw [us_get,List.getElem?_eq_getElem h,List.getD_eq_getElem?_getD,List.getElem?_eq_getElem h]; rfl
 rw [List.getElem?_eq_getElem h2] at g;exact Option.some.inj g
theorem lend_us (l : List Nat) : ∀ (f : Nat -> Rt) (n : Nat),lendC f n (us l) = us l := by
 induction l with
 | nil => intro f n; rfl
 | cons x r ih => intro f n; simp only [us,List.map_cons,lendC] at ih ⊢; rw [ih]
structure Bx (D : List AV) : Prop where
 bo : borL D = []
 ow : hasOwnL D = false
 mp : ∀ g,mapBL g D = D
 bc : ∀ p f n,borC p f n D = none
 pl : plL D = true
 np : ∀ b,noPtrL b D = true
 pp : plpL D = true
 fz : fzL D = true
 fl : flatCells D = D
 fr : frzCL D = some D
theorem bx_us (l : List Nat) : Bx (us l) := by
 induction l with
 | nil => exact ⟨rfl,rfl,fun _ => rfl,fun _ _ _ => rfl,rfl,fun _ => rfl,rfl,rfl,rfl,rfl⟩
 | cons x r ih =>
   refine ⟨ih.bo,ih.ow,fun g => ?_,fun p f n => ?_,ih.pl,fun b => ih.np b,ih.pp,ih.fz,?_,?_⟩
   ·show AV.int .u64 x :: mapBL g (us r) = _;rw [ih.mp]; rfl
   ·exact ih.bc p f (n + 1)
   ·show [AV.int .u64 x] ++ flatCells (us r) = _;rw [ih.fl]; rfl
   ·show (match frzC (.int .u64 x),frzCL (us r) with | some y,some ys => some (y :: ys) | _,_ => none) = _;rw [ih.fr]; rfl
def peG (N : Int) (Y : List AV) : Blk := some [.int .i64 N,.list 2 Y]
def pin (N : Int) (Y : List AV) (O L : List Int) (A D B : List Nat) (left : Nat) (k : Int) (d : Int) (W : List Int) (j : Int) (J : Env) : St :=
 ⟨(2,.own 1 (ints O)) :: (3,.own 1 (ints L)) :: (4,.list 1 (us A)) :: (5,.ptr 2 0) :: (6,.own 1 (ints (ns D))) :: (9,.int .u64 left) :: (10,.int .i64 k) :: (90,.list 1 (ints W)) :: (91,.int .i64 W.length) :: (92,.int .i64 j) :: J,[peG N Y,peG N Y,some (us B)]⟩
theorem box_set (l : List Nat) (i x : Nat) (h : i < l.length) : (us l).drop i = .int .u64 (l.getD i 0 : Nat) :: (us l).drop (i + 1) /\ (us l).take i ++ .int .u64 (x : Int) :: (us l).drop (i + 1) = us (l.set i x) := by
 have h2 : i < (us l).length := by rw [us_length]; exact h
 refine ⟨by rw [List.drop_eq_getElem_cons h2,us_at9 l i h],?_⟩;rw [<- us_set,List.set_eq_take_append_cons_drop,if_pos h2]
theorem pe_round (N : Int) (Y : List AV) (O L : List Int) (A D B : List Nat) (left : Nat) (k d : Int) (W : List Int) (hW : W.length < 65) (j : Nat) (hj : j < W.length) (w e : Nat) (hw : W[j] = (w : Int)) (hw64 : w < 64) (hwD : w < D.length) (he : D.getD w 0 = e + 1) (he64 : e + 1 < 64) (lB : B.length = 64) (sm : ∀ d,B.getD d 0 < 18446744073709551616) : codeL cfgS 2 lQWX1 (pin N Y O L A D B left k d W j []) = some (.normal,pin N Y O L A (D.set w e) (buB B w e) left k d W ((j + 1 : Nat) : Int) []) := by
 have j1 : (j : Int) < W.length := by omega
 have wr := wrapS (i := j) (by omega);have gw : ∀ h,(ints W)[j]'h = .int .i64 (w : Int) := fun h => by rw [intsAt,hw]
 have lW := ints_length W;have mb := mbit_run w hw64;have w1 : (w : Int) < D.length := by omega
 have lD : (ints (ns D)).length = D.length := by rw [ints_length,ns_length]
 have lD2 : (ints (ns (D.set w e))).length = D.length := by rw [ints_length,ns_length,List.length_set]
 have gD : ∀ h,(ints (ns D))[w]'h = .int .i64 ((e + 1 : Nat) : Int) := fun h => by rw [ns_at D w hwD,he]
 have gD2 : ∀ h,(ints (ns (D.set w e)))[w]'h = .int .i64 (e : Int) := fun h => by
  rw [ns_at _ w (by rw [List.length_set]; exact hwD),getDset _ _ _ _ hwD,if_pos rfl]
 have sD := (ns_set D w e).symm;have hp : 2 ^ w < 18446744073709551616 := Nat.pow_lt_pow_right (by decide) (by omega : w < 64);have a1 := u64_andNot_nat (B.getD (e + 1) 0) (2 ^ w) (sm _) hp;obtain ⟨b1,b2⟩ := box_set B (e + 1) (wo (B.getD (e + 1) 0) w) (by omega);have lA : (buA B w e).length = 64 := by unfold buA; rw [List.length_set,lB]
 have gA : (buA B w e).getD e 0 < 18446744073709551616 := by
  unfold buA;rw [getDset _ _ _ _ (by omega),if_neg (by omega)]; exact sm _
 have a2 := u64_or_nat ((buA B w e).getD e 0) (2 ^ w) gA hp;obtain ⟨c1,c2⟩ := box_set (buA B w e) e ((buA B w e).getD e 0 ||| 2 ^ w) (by omega);have f1 : us (B.set (e + 1) (wo (B.getD (e + 1) 0) w)) = us (buA B w e) := rfl;have f2 : us ((buA B w e).set e ((buA B w e).getD e 0 ||| 2 ^ w)) = us (buB B w e) := rfl;rw [f1] at b2;rw [f2] at c2;have f3 : (((B.getD (e + 1) 0 &&& (18446744073709551615 - 2 ^ w) : Nat) : Int)) = ((wo (B.getD (e + 1) 0) w : Nat) : Int) := rfl;rw [f3] at a1;have n1 := lend_us B;have n2 := lend_us (buA B w e);have lu : (us B).length = 64 := by rw [us_length,lB]
 have lu2 : (us (buA B w e)).length = 64 := by rw [us_length,lA]
 have e1 : ((e : Int) + 1) < 64 := by omega
 have e2 : (e : Int) < 64 := by omega
 have e3 : ¬ ((e : Int) + 1) < 0 := by omega
 have e4 : (0 : Int) <= (e : Int) + 1 := by omega
 have e5 : ((e : Int) + 1).toNat = e + 1 := by omega
 have e6 : e <= 63 := by omega
 have e7 : e + 1 <= 63 := by omega
 have e8 : e <= 62 := by omega
 have ws : IntKind.i64.wrap (((e : Int) + 1) - 1) = (e : Int) := by rw [show ((e : Int) + 1) - 1 = e by omega]; exact wrapN (by omega)
 have es : ((e + 1 : Nat) : Int) - 1 = (e : Int) := by omega
 have wn := wrapN (i := e) (by omega);unfold pin peG;generalize wo (B.getD (e + 1) 0) w = z1 at *;generalize (buA B w e).getD e 0 ||| 2 ^ w = z2 at *
 generalize (buA B w e).getD e 0 = z3 at *;generalize B.getD (e + 1) 0 = z4 at *;generalize us (buB B w e) = U3 at *;generalize us (buA B w e) = U2 at *;generalize us B = U1 at *;generalize ints (ns (D.set w e)) = D2 at *;generalize ints (ns D) = D1 at *;generalize ints W = W1 at *;generalize ints O = O1 at *;generalize ints L = L1 at *;generalize us A = A1 at *;clear sm gA hw he f1 f2 f3 hp;generalize 2 ^ w = p2 at *;unfold lQWX1;simp [rQWX0,rQWX1,rQWX2,rQWX3,rQWX4,rQWX5,rQWX6,rQWX7,rQWX8,rQWX9,rQWX10,rQWX11,rQWX12,rQWX13,rQWX14,rQWX15,rQWX16,rQWX17,rQWX18,rQWX19,rQWX20,rQWX21,rQWX22,rQWX23,rQWX24,rQWX25,rQWX26,rQWX27,rQWX28,rQWX29,rQWX30,rQWX31,rQWX32,j1,hj,wr,gw,lW,mb,w1,hwD,lD,lD2,gD,gD2,sD,a1,a2,b1,b2,c1,c2,n1,n2,lu,lu2,e1,e2,e3,e4,e5,e6,e7,e8,ws,es,wn,idx,blk,IntKind.bits,sQa2,iQa2,lQa2]
/- core.peel: a node is taken (the scan of the buckets). -/
theorem ns_get {l : List Nat} {j : Nat} (h : j < (ns l).length) : (ns l)[j] = ((l[j]'(by rwa [ns_length] at h) : Nat) : Int) := by simp [ns]
theorem pe_in (N : Int) (Y : List AV) (O L : List Int) (A : List Nat) (left : Nat) (k d : Int) (W : List Nat) (hW : W.length < 65) {n m : Nat} (hn : n <= 64) : ∀ (c j : Nat) (D B : List Nat),j + c = W.length -> Pck n m D B -> (W.drop j).Nodup -> (∀ w ∈ W.drop j,m.testBit w = true /\ 0 < D.getD w 0) -> codeL cfgS 2 (.loop lQWX1) (pin N Y O L A D B left k d (ns W) j []) = some (.exit 6,pin N Y O L A ((W.drop j).foldl dcS (D,B)).1 ((W.drop j).foldl dcS (D,B)).2 left k d (ns W) W.length [(93,.bool false)])
 | 0,j,D,B,hc,_,_,_ => by
   obtain rfl : j = W.length := by omega
   rw [List.drop_length,List.foldl_nil];refine loop_exit ?_;have lw := ns_length W;unfold pin peG;rw [lw];generalize ints O = O1;generalize ints L = L1;generalize us A = A1;generalize us B = B1;generalize ints (ns D) = D1;generalize ints (ns W) = W1;unfold lQWX1;simp [rQWX0,rQWX1,rQWX2,rQWX3,rQWX4,rQWX5,rQWX6,rQWX7,rQWX8,rQWX9,rQWX10,rQWX11,rQWX12,rQWX13,rQWX14,rQWX15,rQWX16,rQWX17,rQWX18,rQWX19,rQWX20,rQWX21,rQWX22,rQWX23,rQWX24,rQWX25,rQWX26,rQWX27,rQWX28,rQWX29,rQWX30,rQWX31,rQWX32,blk]
 | c + 1,j,D,B,hc,hP,hN,hw => by
   have hj : j < W.length := by omega
   rw [List.drop_eq_getElem_cons hj] at hN hw;obtain ⟨n1,n2⟩ := List.nodup_cons.1 hN;obtain ⟨w1,w2⟩ := hw _ List.mem_cons_self;have wn := hP.rng _ w1;have hd := hP.deg W[j];have h1 := pck_dec hP hn w1 (e := D.getD W[j] 0 - 1) (by omega);have gD : ∀ x,(D.set W[j] (D.getD W[j] 0 - 1)).getD x 0 = if x = W[j] then D.getD W[j] 0 - 1 else D.getD x 0 := fun x => getDset _ _ _ _ (by rw [hP.lenD]; exact wn);have lw := ns_length W;have rd := pe_round N Y O L A D B left k d (ns W) (by omega) j (by omega) W[j] (D.getD W[j] 0 - 1) (ns_get (by omega)) (by omega) (by rw [hP.lenD]; exact wn) (by omega) (by omega) hP.lenB hP.sm
   have ih := pe_in N Y O L A left k d W hW hn c (j + 1) _ _ (by omega) h1 n2 fun x hx => by
    have hne : x ≠ W[j] := fun q => n1 (q ▸ hx);rw [gD,if_neg hne];exact hw x (List.mem_cons_of_mem _ hx)
   rw [List.drop_eq_getElem_cons hj,List.foldl_cons];exact (loop_next rd).trans ih
def pst9 (N : Int) (Y : List AV) (O L : List Int) (A D B : List Nat) (left : Nat) (k : Int) (J : Env) : St :=
 ⟨(2,.own 1 (ints O)) :: (3,.own 1 (ints L)) :: (4,.list 1 (us A)) :: (5,.ptr 2 0) :: (6,.own 1 (ints (ns D))) :: (9,.int .u64 left) :: (10,.int .i64 k) :: J,[peG N Y,peG N Y,some (us B)]⟩
theorem pe_skip (N : Int) (Y : List AV) (O L : List Int) (A D B : List Nat) (left : Nat) (k : Int) (d : Nat) (hd : d < 64) (lB : B.length = 64) (hb : B.getD d 0 = 0) : codeL cfgS 2 lQWX2 (pst9 N Y O L A D B left k [(51,.int .i64 d)]) = some (.normal,pst9 N Y O L A D B left k [(51,.int .i64 ((d + 1 : Nat) : Int))]) := by
 have d1 : (d : Int) < 64 := by omega
 have wr := wrapS (i := d) (by omega);obtain ⟨b1,_⟩ := box_set B d 0 (by omega);rw [hb] at b1;have n1 := lend_us B;have lu : (us B).length = 64 := by rw [us_length,lB]
 have e1 : d <= 63 := by omega
 unfold pst9 peG;generalize us B = U1 at *;generalize ints (ns D) = D1 at *;generalize ints O = O1 at *;generalize ints L = L1 at *;generalize us A = A1 at *;unfold lQWX2;simp [rQWX0,rQWX1,rQWX2,rQWX3,rQWX4,rQWX5,rQWX6,rQWX7,rQWX8,rQWX9,rQWX10,rQWX11,rQWX12,rQWX13,rQWX14,rQWX15,rQWX16,rQWX17,rQWX18,rQWX19,rQWX20,rQWX21,rQWX22,rQWX23,rQWX24,rQWX25,rQWX26,rQWX27,rQWX28,rQWX29,rQWX30,rQWX31,rQWX32,d1,hd,wr,b1,n1,lu,e1,nat0,idx,blk]
theorem pe_hit (N : Nat) (Y : List AV) (O L : List Int) (A D B : List Nat) (hN : N <= 64) (m : Nat) (hS : SymA A) (hI : ∀ a,(A.getD a 0).testBit a = false) (hA : A.length = N) (hAs : Small A) (h : Pst A N m D B) (k d : Nat) (hd : d < 64) (hb : B.getD d 0 ≠ 0) (hz : ∀ e,e < d -> B.getD e 0 = 0) (hO : O.length <= 64) (hL : L.length = N) :
  ∃ D' B' : List Nat,∃ W : List Nat,Pst A N (wo m (tz (B.getD d 0))) D' B' /\ codeL cfgS 2 lQWX2 (pst9 N Y O L A D B m k [(51,.int .i64 d)]) = some (.exit 3,pst9 N Y (O ++ [((tz (B.getD d 0) : Nat) : Int)]) (L.set (tz (B.getD d 0)) ((max k d : Nat) : Int)) A D' B' (wo m (tz (B.getD d 0))) ((max k d : Nat) : Int) [(90,.list 1 (ints (ns W))),(91,.int .i64 W.length),(92,.int .i64 W.length),(93,.bool false)]) := by
 obtain ⟨⟨v64,vb,_,_⟩,vN,vD⟩ := pst_pick h hN hd hb hz;have hx := h.pck.sm d;generalize hv : tz (B.getD d 0) = v at *
 let W := (List.range 64).filter fun j => (A.getD v 0 &&& wo m v).testBit j
 have hWm : ∀ w,w ∈ W ↔ (A.getD v 0 &&& wo m v).testBit w = true := fun w => by
  constructor
  ·intro q; exact (List.mem_filter.1 q).2
  ·intro q;refine List.mem_filter.2 ⟨List.mem_range.2 ?_,q⟩;rw [Nat.testBit_and,wo_bit h.lt v64] at q;simp only [Bool.and_eq_true] at q;have := h.pck.rng w q.2.1;omega
 have hnd : W.Nodup := List.nodup_range.filter _
 have lW : W.length < 65 := by
  have := List.length_filter_le (fun j => (A.getD v 0 &&& wo m v).testBit j) (List.range 64);rw [List.length_range] at this;show (List.filter _ _).length < 65;omega
 have st := pst_step hS hI h hN hd vN vb vD W hnd hWm;have p1 := pck_out h.pck h.lt v64 hd vD
 have hw : ∀ w ∈ W,(wo m v).testBit w = true /\ 0 < D.getD w 0 := fun w hw => by
  have := (hWm w).1 hw;rw [Nat.testBit_and,wo_bit h.lt v64] at this;simp only [Bool.and_eq_true,decide_eq_true_eq] at this;obtain ⟨q1,q2,q3⟩ := this;refine ⟨by rw [wo_bit h.lt v64,q2]; simp [q3],?_⟩;rw [h.deg w q2];exact pcn_pos v64 (by rw [Nat.testBit_and,vb,hS w v,q1]; rfl)
 have lp := pe_in N Y (O ++ [((v : Nat) : Int)]) (L.set v ((max k d : Nat) : Int)) A (wo m v) ((max k d : Nat) : Int) 0 W lW hN W.length 0 D (B.set d (wo (B.getD d 0) v)) (by omega) p1 (by rw [List.drop_zero]; exact hnd) (by rw [List.drop_zero]; exact hw);rw [List.drop_zero] at lp;refine ⟨_,_,W,st,?_⟩;have hwm : wo m v < 18446744073709551616 := Nat.lt_of_le_of_lt Nat.and_le_left h.lt;have hg := getD_lt hAs v;have hand : A.getD v 0 &&& wo m v < 18446744073709551616 := Nat.lt_of_le_of_lt Nat.and_le_left hg;have ml := mlist_run _ hand;have eb : bitL (A.getD v 0 &&& wo m v) = ns W := rfl;rw [eb] at ml;generalize W.foldl dcS (D,B.set d (wo (B.getD d 0) v)) = R at *;have lw := ns_length W;have d1 : (d : Int) < 64 := by omega
 obtain ⟨b1,b2⟩ := box_set B d (wo (B.getD d 0) v) (by rw [h.pck.lenB]; exact hd);have n1 := lend_us B;have lu : (us B).length = 64 := by rw [us_length,h.pck.lenB]
 have e1 : d <= 63 := by omega
 have mt := mleast_run (B.getD d 0) hb hx;rw [hv] at mt;have mb := mbit_run v v64;have hp : 2 ^ v < 18446744073709551616 := Nat.pow_lt_pow_right (by decide) (by omega : v < 64);have a1 := u64_andNot_nat m (2 ^ v) h.lt hp;have a2 := u64_andNot_nat (B.getD d 0) (2 ^ v) hx hp;have a3 := u64_and_nat (A.getD v 0) (wo m v) hg hwm;have f1 : (((m &&& (18446744073709551615 - 2 ^ v) : Nat) : Int)) = ((wo m v : Nat) : Int) := rfl;have f2 : (((B.getD d 0 &&& (18446744073709551615 - 2 ^ v) : Nat) : Int)) = ((wo (B.getD d 0) v : Nat) : Int) := rfl;rw [f1] at a1;rw [f2] at a2;have gA : ∀ q,(us A)[v]'q = .int .u64 (A.getD v 0 : Nat) := fun q => us_at9 A v (by rw [hA]; exact vN) q;have lA : (us A).length = N := by rw [us_length,hA]
 have v1 : (v : Int) < N := by omega
 have lL : (ints L).length = N := by rw [ints_length,hL]
 have sL : (ints L).set v (.int .i64 ((max k d : Nat) : Int)) = ints (L.set v ((max k d : Nat) : Int)) := (ints_setA L v _).symm;have mx : (if (k : Int) < d then (d : Int) else (k : Int)) = ((max k d : Nat) : Int) := by split <;> omega
 have mx2 : (if k < d then (d : Int) else (k : Int)) = ((max k d : Nat) : Int) := by split <;> omega
 have hO2 : O.length + 1 <= 4294967296 := by omega
 have b0 : ¬ B.getD d 0 = 0 := hb;have tk : (ints (O ++ [(v : Int)])).take (O.length + 1) = ints (O ++ [(v : Int)]) := List.take_of_length_le (by rw [ints_length]; simp);have lO := ints_length O;have lO2 : (ints (O ++ [(v : Int)])).length = O.length + 1 := by rw [ints_length]; simp
 have so : ints O ++ [.int .i64 (v : Int)] = ints (O ++ [(v : Int)]) := ints_snoc O v;obtain ⟨x1,x2,x3,x4,x5,x6,x7,x8,x9,_⟩ := bx_us B;obtain ⟨y1,y2,y3,y4,y5,y6,y7,y8,y9,_⟩ := bx_us (B.set d (wo (B.getD d 0) v));obtain ⟨z1',z2',z3',z4',z5',z6',z7',z8',z9',_⟩ := bx_us R.2;have tO : (ints O).take O.length = ints O := List.take_of_length_le (by rw [ints_length]; omega);have lW1 : (ints (ns W)).length = W.length := by rw [ints_length,lw]
 unfold pin at lp;rw [lw] at lp;change codeL cfgS 2 _ (⟨_,_⟩ : St) = _ at lp;unfold pst9;unfold peG at lp ⊢;rw [nat0] at lp;clear hw hWm hnd st p1 hz vb h hAs hS hI hg hand hwm hx hb hp f1 f2;generalize max k d = K at *;generalize A.getD v 0 &&& wo m v = z0 at *;generalize wo (B.getD d 0) v = z1 at *;generalize wo m v = z2 at *;generalize B.getD d 0 = z4 at *;generalize A.getD v 0 = z5 at *;generalize us (B.set d z1) = U2 at *;generalize us B = U1 at *;generalize us R.2 = U3 at *;generalize ints (ns R.1) = D2 at *;generalize ints (ns D) = D1 at *;generalize ints (O ++ [(v : Int)]) = O2 at *;generalize ints O = O1 at *;generalize ints (L.set v (K : Int)) = L2 at *;generalize ints L = L1 at *;generalize us A = A1 at *;generalize ints (ns W) = W1 at *;generalize 2 ^ v = p2 at *;unfold lQWX2;simp [rQWX0,rQWX1,rQWX2,rQWX3,rQWX4,rQWX5,rQWX6,rQWX7,rQWX8,rQWX9,rQWX10,rQWX11,rQWX12,rQWX13,rQWX14,rQWX15,rQWX16,rQWX17,rQWX18,rQWX19,rQWX20,rQWX21,rQWX22,rQWX23,rQWX24,rQWX25,rQWX26,rQWX27,rQWX28,rQWX29,rQWX30,rQWX31,rQWX32,d1,hd,b1,b2,n1,lu,e1,b0,mt,mb,ml,a1,a2,a3,gA,lA,v1,vN,lL,sL,mx,mx2,hO2,tk,lO,lO2,so,tO,lW1,x1,x2,x3,x4,x6,y1,y2,y3,y4,y6,z1',z2',z3',z4',z6',lp,lw,LIM,minA,minF,idx,blk,IntKind.bits,plL,pl,sQa4,iQa4,lQa4,sQa2,iQa2,lQa2,sQU,iQU,lQU]
theorem pe_scan (N : Nat) (Y : List AV) (O L : List Int) (A D B : List Nat) (hN : N <= 64) (m : Nat) (hS : SymA A) (hI : ∀ a,(A.getD a 0).testBit a = false) (hA : A.length = N) (hAs : Small A) (h : Pst A N m D B) (k d : Nat) (hd : d < 64) (hb : B.getD d 0 ≠ 0) (hz : ∀ e,e < d -> B.getD e 0 = 0) (hO : O.length <= 64) (hL : L.length = N) : ∀ c i : Nat,i + c = d ->
  ∃ D' B' : List Nat,∃ W : List Nat,Pst A N (wo m (tz (B.getD d 0))) D' B' /\ codeL cfgS 2 (.loop lQWX2) (pst9 N Y O L A D B m k [(51,.int .i64 i)]) = some (.exit 3,pst9 N Y (O ++ [((tz (B.getD d 0) : Nat) : Int)]) (L.set (tz (B.getD d 0)) ((max k d : Nat) : Int)) A D' B' (wo m (tz (B.getD d 0))) ((max k d : Nat) : Int) [(90,.list 1 (ints (ns W))),(91,.int .i64 W.length),(92,.int .i64 W.length),(93,.bool false)])
 | 0,i,e => by
   obtain rfl : i = d := by omega
   obtain ⟨D',B',W,h1,h2⟩ := pe_hit N Y O L A D B hN m hS hI hA hAs h k i hd hb hz hO hL;exact ⟨D',B',W,h1,loop_exit h2⟩
 | c + 1,i,e => by
   obtain ⟨D',B',W,h1,h2⟩ := pe_scan N Y O L A D B hN m hS hI hA hAs h k d hd hb hz hO hL c (i + 1) (by omega);exact ⟨D',B',W,h1,(loop_next (pe_skip N Y O L A D B m k i (by omega) h.pck.lenB (hz i (by omega)))).trans h2⟩
/- core.peel: the nodes one after the other; the buckets at the start. -/
theorem pe_ones (m : Nat) (h : m < 18446744073709551616) : callL cfgS nQ1 [.int .u64 m] [] = some (.int .i64 (pcn m : Nat),[]) := by
 rw [ones_run];have := pxE_all m h;rw [show pcE (m : Int) = pxE (m : Int) from rfl,this]
theorem pe_cnt (m : Nat) (h : m < 18446744073709551616) : callL cfgS nQa1 [.int .u64 m] [] = some (.int .i64 (pcn m : Nat),[]) := by
 have o := pe_ones m h;rw [callL_end oQa1 sQa1 (Nat.le_of_ble_eq_true rfl)];generalize ((pcn m : Nat) : Int) = p at *;generalize (m : Int) = x at *;unfold qQa1 cQa1;simp [rQa1X0,rQa1X1,o,blk,endL,finB,sQ1,iQ1,lQ1]
def jk9 (J : Env) : Prop := J = [] \/ ∃ W : List Nat,J = [(90,.list 1 (ints (ns W))),(91,.int .i64 W.length),(92,.int .i64 W.length),(93,.bool false)]
theorem pe_end (N : Int) (Y : List AV) (O L : List Int) (A D B : List Nat) (k : Int) (J : Env) (hJ : jk9 J) : codeL cfgS 2 lQWX3 (pst9 N Y O L A D B 0 k J) = some (.exit 2,pst9 N Y O L A D B 0 k [(50,.bool false)]) := by
 obtain ⟨x1,x2,x3,x4,x5,x6,_⟩ := bx_us B;unfold pst9 peG;rw [nat0];generalize us B = U1 at *;generalize ints (ns D) = D1 at *;generalize ints O = O1 at *;generalize ints L = L1 at *;generalize us A = A1 at *;rcases hJ with rfl | ⟨W,rfl⟩
 ·unfold lQWX3;simp [rQWX0,rQWX1,rQWX2,rQWX3,rQWX4,rQWX5,rQWX6,rQWX7,rQWX8,rQWX9,rQWX10,rQWX11,rQWX12,rQWX13,rQWX14,rQWX15,rQWX16,rQWX17,rQWX18,rQWX19,rQWX20,rQWX21,rQWX22,rQWX23,rQWX24,rQWX25,rQWX26,rQWX27,rQWX28,rQWX29,rQWX30,rQWX31,rQWX32,x1,x2,x3,x4,x6,blk]
 ·generalize ints (ns W) = W1 at *;unfold lQWX3;simp [rQWX0,rQWX1,rQWX2,rQWX3,rQWX4,rQWX5,rQWX6,rQWX7,rQWX8,rQWX9,rQWX10,rQWX11,rQWX12,rQWX13,rQWX14,rQWX15,rQWX16,rQWX17,rQWX18,rQWX19,rQWX20,rQWX21,rQWX22,rQWX23,rQWX24,rQWX25,rQWX26,rQWX27,rQWX28,rQWX29,rQWX30,rQWX31,rQWX32,x1,x2,x3,x4,x6,blk]
theorem pe_next (N : Int) (Y : List AV) (O L O' L' : List Int) (A D B D' B' : List Nat) (k k' : Int) (m m' : Nat) (h0 : m ≠ 0) (W : List Nat) (J : Env) (hJ : jk9 J) (h : codeL cfgS 2 (.loop lQWX2) (pst9 N Y O L A D B m k [(51,.int .i64 0)]) = some (.exit 3,pst9 N Y O' L' A D' B' m' k' [(90,.list 1 (ints (ns W))),(91,.int .i64 W.length),(92,.int .i64 W.length),(93,.bool false)])) : codeL cfgS 2 lQWX3 (pst9 N Y O L A D B m k J) = some (.normal,pst9 N Y O' L' A D' B' m' k' [(90,.list 1 (ints (ns W))),(91,.int .i64 W.length),(92,.int .i64 W.length),(93,.bool false)]) := by
 have m0 : ¬ ((m : Int) = 0) := by omega
 obtain ⟨x1,x2,x3,x4,x5,x6,_⟩ := bx_us B;unfold pst9 peG at *;generalize us B' = U2 at *;generalize us B = U1 at *;generalize ints (ns D') = D2 at *;generalize ints (ns D) = D1 at *;generalize ints O' = O2 at *;generalize ints O = O1 at *;generalize ints L' = L2 at *;generalize ints L = L1 at *;generalize us A = A1 at *;generalize (m : Int) = X at *;rcases hJ with rfl | ⟨V,rfl⟩
 ·generalize ints (ns W) = W1 at *;unfold lQWX3;simp [rQWX0,rQWX1,rQWX2,rQWX3,rQWX4,rQWX5,rQWX6,rQWX7,rQWX8,rQWX9,rQWX10,rQWX11,rQWX12,rQWX13,rQWX14,rQWX15,rQWX16,rQWX17,rQWX18,rQWX19,rQWX20,rQWX21,rQWX22,rQWX23,rQWX24,rQWX25,rQWX26,rQWX27,rQWX28,rQWX29,rQWX30,rQWX31,rQWX32,h,m0,h0,x1,x2,x3,x4,x6,blk]
 ·generalize ints (ns W) = W1 at *;generalize ints (ns V) = V1 at *;unfold lQWX3;simp [rQWX0,rQWX1,rQWX2,rQWX3,rQWX4,rQWX5,rQWX6,rQWX7,rQWX8,rQWX9,rQWX10,rQWX11,rQWX12,rQWX13,rQWX14,rQWX15,rQWX16,rQWX17,rQWX18,rQWX19,rQWX20,rQWX21,rQWX22,rQWX23,rQWX24,rQWX25,rQWX26,rQWX27,rQWX28,rQWX29,rQWX30,rQWX31,rQWX32,h,m0,h0,x1,x2,x3,x4,x6,blk]
theorem pnum_len : ∀ (o ds : List Nat) (k : Nat) (L : List Int),(pnum o ds k L).length = L.length
 | [],_,_,_ => by unfold pnum; rfl
 | v :: o,[],_,_ => by unfold pnum; rfl
 | v :: o,d :: ds,k,L => by unfold pnum; rw [pnum_len,List.length_set]
theorem pe_out (N : Nat) (Y : List AV) (A : List Nat) (hN : N <= 64) (hS : SymA A) (hI : ∀ a,(A.getD a 0).testBit a = false) (hA : A.length = N) (hAs : Small A) : ∀ (m : Nat) (O L : List Int) (D B : List Nat) (k : Nat) (J : Env),jk9 J -> Pst A N m D B -> O.length + pcn m <= 64 -> L.length = N ->
  ∃ (o ds D' B' : List Nat) (k' : Nat),PeelR A m o ds /\ codeL cfgS 2 (.loop lQWX3) (pst9 N Y O L A D B m k J) = some (.exit 2,pst9 N Y (O ++ ns o) (pnum o ds k L) A D' B' 0 (k' : Int) [(50,.bool false)]) := by
 intro m
 induction m using Nat.strongRecOn with
 | ind m ih =>
   intro O L D B k J hJ hP hO hL;by_cases h0 : m = 0
   ·subst h0;refine ⟨[],[],D,B,k,.nil,?_⟩;have : O ++ ns [] = O := by simp [ns]
    rw [this];exact loop_exit (pe_end N Y O L A D B k J hJ)
   ·obtain ⟨d,d1,d2,d3⟩ := pst_first hP hN h0;obtain ⟨hp,vN,_⟩ := pst_pick hP hN d1 d2 d3;have pc := pcn_wo (m := m) (a := m) hP.lt hp.1;rw [if_pos ⟨hp.2.1,hp.2.1⟩,Nat.and_self] at pc
    have e1 : wo m (tz (B.getD d 0)) &&& m = wo m (tz (B.getD d 0)) := by
     apply Nat.eq_of_testBit_eq;intro j;rw [Nat.testBit_and,wo_bit hP.lt hp.1];cases m.testBit j <;> simp
    rw [e1] at pc;have pp := pcn_pos hp.1 hp.2.1;obtain ⟨D',B',W,s1,s2⟩ := pe_scan N Y O L A D B hN m hS hI hA hAs hP k d d1 d2 d3 (by omega) hL d 0 (by omega);obtain ⟨o,ds,D2,B2,k2,r1,r2⟩ := ih (wo m (tz (B.getD d 0))) (wo_lt hP.lt hp.1 hp.2.1) (O ++ [((tz (B.getD d 0) : Nat) : Int)]) (L.set (tz (B.getD d 0)) ((max k d : Nat) : Int)) D' B' (max k d) _ (.inr ⟨W,rfl⟩) s1 (by rw [List.length_append,List.length_singleton]; omega) (by rw [List.length_set,hL]);refine ⟨tz (B.getD d 0) :: o,d :: ds,D2,B2,k2,.cons hp r1,?_⟩;have e2 : O ++ ns (tz (B.getD d 0) :: o) = O ++ [((tz (B.getD d 0) : Nat) : Int)] ++ ns o := by simp [ns]
    rw [e2];exact (loop_next (pe_next N Y O L _ _ A D B D' B' k _ m _ h0 W J hJ s2)).trans r2
/-! The start -/
theorem full_bit (n j : Nat) : (2 ^ n - 1).testBit j = decide (j < n) := Nat.testBit_two_pow_sub_one n j
theorem pcn_lt {x i : Nat} (hi : i < 64) (h : x.testBit i = false) : pcn x < 64 := by
 unfold pcn
 have e : ((List.range 64).filter fun j => x.testBit j) = (((List.range 64).erase i).filter fun j => x.testBit j) := by
  rw [List.Nodup.erase_eq_filter List.nodup_range,List.filter_filter];congr 1;funext j;by_cases q : j = i
  ·subst q; simp [h]
  ·simp [q]
 rw [e];have h1 := List.length_filter_le (fun j => x.testBit j) ((List.range 64).erase i);rw [List.length_erase_of_mem (List.mem_range.2 hi),List.length_range] at h1;omega
theorem pck_put {N i : Nat} {D B : List Nat} (h : Pck N (2 ^ i - 1) D B) (hN : N <= 64) (hi : i < N) {c : Nat} (hc : c < 64) : Pck N (2 ^ (i + 1) - 1) (D.set i c) (B.set c (B.getD c 0 ||| 2 ^ i)) := by
 have hp : 2 ^ i < 18446744073709551616 := Nat.pow_lt_pow_right (by decide) (by omega : i < 64);have gB : ∀ d,(B.set c (B.getD c 0 ||| 2 ^ i)).getD d 0 = if d = c then B.getD c 0 ||| 2 ^ i else B.getD d 0 := fun d => getDset _ _ _ _ (by rw [h.lenB]; exact hc)
 have gD : ∀ j,(D.set i c).getD j 0 = if j = i then c else D.getD j 0 := fun j => getDset _ _ _ _ (by rw [h.lenD]; exact hi);refine ⟨by rw [List.length_set,h.lenD],by rw [List.length_set,h.lenB],fun d => ?_,fun d j hd => ?_,fun j hj => ?_,fun v => ?_⟩
 ·rw [gB];split
  ·exact Nat.or_lt_two_pow (n := 64) (h.sm c) hp
  ·exact h.sm d
 ·rw [gB,gD,full_bit];by_cases q : d = c
  ·subst q;rw [if_pos rfl,Nat.testBit_or,Nat.testBit_two_pow,h.bit d j hd,full_bit];by_cases z : j = i
   ·subst z;rw [if_pos rfl]; simp
   ·rw [if_neg z];have z' : ¬ i = j := fun k => z k.symm;have : decide (j < i + 1) = decide (j < i) := by apply decide_eq_decide.2; omega
    rw [this];simp [z']
  ·rw [if_neg q,h.bit d j hd,full_bit];by_cases z : j = i
   ·subst z;rw [if_pos rfl];have : ¬ c = d := fun k => q k.symm;simp [this]
   ·rw [if_neg z];have : decide (j < i + 1) = decide (j < i) := by apply decide_eq_decide.2; omega
    rw [this]
 ·rw [full_bit] at hj;have := of_decide_eq_true hj;omega
 ·rw [gD];split
  ·exact hc
  ·exact h.deg v
def fst9 (N : Int) (Y : List AV) (A D B : List Nat) (n i : Int) (J : Env) : St := ⟨(2,.own 1 []) :: (4,.list 1 (us A)) :: (5,.ptr 2 0) :: (6,.own 1 (ints (ns D))) :: (20,.list 1 (us A)) :: (21,.int .i64 n) :: (22,.int .i64 i) :: J,[peG N Y,peG N Y,some (us B)]⟩
theorem fi_round (N : Int) (Y : List AV) (A D B : List Nat) (hA : A.length <= 64) (hAs : Small A) (i : Nat) (hi : i < A.length) (lD : D.length = A.length) (lB : B.length = 64) (sm : ∀ d,B.getD d 0 < 18446744073709551616) (hc : pcn (A.getD i 0) < 64) : codeL cfgS 2 lQWX0 (fst9 N Y A D B A.length i []) = some (.normal,fst9 N Y A (D.set i (pcn (A.getD i 0))) (B.set (pcn (A.getD i 0)) (B.getD (pcn (A.getD i 0)) 0 ||| 2 ^ i)) A.length ((i + 1 : Nat) : Int) []) := by
 have i1 : (i : Int) < A.length := by omega
 have wr := wrapS (i := i) (by omega);have hg := getD_lt hAs i;have mc := pe_cnt _ hg;have gA : ∀ q,(us A)[i]'q = .int .u64 (A.getD i 0 : Nat) := fun q => us_at9 A i hi q;have lA := us_length A;have lDD : (ints (ns D)).length = A.length := by rw [ints_length,ns_length,lD]
 have sD := (ns_set D i (pcn (A.getD i 0))).symm;have lDD2 : (ints (ns (D.set i (pcn (A.getD i 0))))).length = A.length := by rw [ints_length,ns_length,List.length_set,lD]
 have gD2 : ∀ h,(ints (ns (D.set i (pcn (A.getD i 0)))))[i]'h = .int .i64 (pcn (A.getD i 0) : Nat) := fun h => by
  rw [ns_at _ i (by rw [List.length_set,lD]; exact hi),getDset _ _ _ _ (by rw [lD]; exact hi),if_pos rfl]
 have mb := mbit_run i (by omega);have hp : 2 ^ i < 18446744073709551616 := Nat.pow_lt_pow_right (by decide) (by omega : i < 64);have a2 := u64_or_nat (B.getD (pcn (A.getD i 0)) 0) (2 ^ i) (sm _) hp;obtain ⟨c1,c2⟩ := box_set B (pcn (A.getD i 0)) (B.getD (pcn (A.getD i 0)) 0 ||| 2 ^ i) (by omega);have n1 := lend_us B;have lu : (us B).length = 64 := by rw [us_length,lB]
 obtain ⟨x1,x2,x3,x4,x5,x6,_⟩ := bx_us B;obtain ⟨y1,y2,y3,y4,y5,y6,_⟩ := bx_us (B.set (pcn (A.getD i 0)) (B.getD (pcn (A.getD i 0)) 0 ||| 2 ^ i));have e1 : ((pcn (A.getD i 0) : Nat) : Int) < 64 := by omega
 have e2 : pcn (A.getD i 0) <= 63 := by omega
 unfold fst9 peG;generalize B.getD (pcn (A.getD i 0)) 0 ||| 2 ^ i = z1 at *
 generalize B.getD (pcn (A.getD i 0)) 0 = z2 at *;generalize us (B.set (pcn (A.getD i 0)) z1) = U2 at *;generalize us B = U1 at *;generalize ints (ns (D.set i (pcn (A.getD i 0)))) = D2 at *;generalize ints (ns D) = D1 at *;clear hg sm hp;generalize pcn (A.getD i 0) = c at *;generalize A.getD i 0 = z5 at *;generalize us A = A1 at *;generalize 2 ^ i = p2 at *;unfold lQWX0;simp [rQWX0,rQWX1,rQWX2,rQWX3,rQWX4,rQWX5,rQWX6,rQWX7,rQWX8,rQWX9,rQWX10,rQWX11,rQWX12,rQWX13,rQWX14,rQWX15,rQWX16,rQWX17,rQWX18,rQWX19,rQWX20,rQWX21,rQWX22,rQWX23,rQWX24,rQWX25,rQWX26,rQWX27,rQWX28,rQWX29,rQWX30,rQWX31,rQWX32,i1,hi,wr,mc,gA,lA,lDD,lDD2,gD2,sD,mb,a2,c1,c2,n1,lu,e1,hc,e2,x1,x2,x3,x4,x6,y1,y2,y3,y4,y6,idx,blk,IntKind.bits,sQa2,iQa2,lQa2,sQa1,iQa1,lQa1]
theorem fi_loop (N : Nat) (Y : List AV) (A : List Nat) (hN : N <= 64) (hA : A.length = N) (hAs : Small A) (hI : ∀ a,(A.getD a 0).testBit a = false) : ∀ (c i : Nat) (D B : List Nat),i + c = N -> Pck N (2 ^ i - 1) D B -> (∀ j,j < i -> D.getD j 0 = pcn (A.getD j 0)) -> ∃ D' B',Pck N (2 ^ N - 1) D' B' /\ (∀ j,j < N -> D'.getD j 0 = pcn (A.getD j 0)) /\ codeL cfgS 2 (.loop lQWX0) (fst9 N Y A D B N i []) = some (.exit 0,fst9 N Y A D' B' N N [(23,.bool false)])
 | 0,i,D,B,hc,hP,hD => by
   obtain rfl : i = N := by omega
   refine ⟨D,B,hP,hD,loop_exit ?_⟩;obtain ⟨x1,x2,x3,x4,x5,x6,_⟩ := bx_us B;unfold fst9 peG;generalize us B = U1 at *;generalize ints (ns D) = D1 at *;generalize us A = A1 at *;unfold lQWX0;simp [rQWX0,rQWX1,rQWX2,rQWX3,rQWX4,rQWX5,rQWX6,rQWX7,rQWX8,rQWX9,rQWX10,rQWX11,rQWX12,rQWX13,rQWX14,rQWX15,rQWX16,rQWX17,rQWX18,rQWX19,rQWX20,rQWX21,rQWX22,rQWX23,rQWX24,rQWX25,rQWX26,rQWX27,rQWX28,rQWX29,rQWX30,rQWX31,rQWX32,x1,x2,x3,x4,x6,blk]
 | c + 1,i,D,B,hc,hP,hD => by
   have hi : i < N := by omega
   have hcn := pcn_lt (x := A.getD i 0) (i := i) (by omega) (hI i);have r := fi_round N Y A D B (by omega) hAs i (by omega) (by rw [hP.lenD,hA]) hP.lenB hP.sm hcn;rw [hA] at r
   obtain ⟨D',B',h1,h2,h3⟩ := fi_loop N Y A hN hA hAs hI c (i + 1) _ _ (by omega) (pck_put hP hN hi hcn) fun j hj => by
    rw [getDset _ _ _ _ (by rw [hP.lenD]; exact hi)];split
    ·rename_i e; rw [e]
    ·exact hD j (by omega)
   exact ⟨D',B',h1,h2,(loop_next r).trans h3⟩
theorem pst_full {A : List Nat} {N : Nat} {D B : List Nat} (hN : N <= 64) (hb : ∀ a j,(A.getD a 0).testBit j = true -> j < N) (h : Pck N (2 ^ N - 1) D B) (hD : ∀ j,j < N -> D.getD j 0 = pcn (A.getD j 0)) : Pst A N (2 ^ N - 1) D B := by
 have hp : 2 ^ N <= 2 ^ 64 := Nat.pow_le_pow_right (by decide) hN;refine ⟨h,by have : (2:Nat) ^ 64 = 18446744073709551616 := rfl; have := Nat.two_pow_pos N; omega,fun j hj => ?_⟩;rw [full_bit] at hj;rw [hD j (of_decide_eq_true hj)];unfold dgM;congr 1;apply Nat.eq_of_testBit_eq;intro i;rw [Nat.testBit_and,full_bit];cases e : (A.getD j 0).testBit i with
 | false => simp
 | true => simp [hb j i e]
theorem pck_zero (N : Nat) : Pck N (2 ^ 0 - 1) (List.replicate N 0) (List.replicate 64 0) := by
 have g : ∀ n v,(List.replicate n 0).getD v 0 = 0 := fun n v => by rw [List.getD_eq_getElem?_getD,List.getElem?_replicate]; split <;> rfl
 refine ⟨List.length_replicate,List.length_replicate,fun d => by rw [g]; decide,fun d j hd => ?_,fun j hj => ?_,fun v => by rw [g]; decide⟩
 ·rw [g,full_bit]; simp
 ·rw [full_bit] at hj; simp at hj
/- core.peel, core.Order, maxclique.Colours. -/
theorem us_z64 : us (List.replicate 64 0) = [.int .u64 0,.int .u64 0,.int .u64 0,.int .u64 0,.int .u64 0,.int .u64 0,.int .u64 0,.int .u64 0,.int .u64 0,.int .u64 0,.int .u64 0,.int .u64 0,.int .u64 0,.int .u64 0,.int .u64 0,.int .u64 0,.int .u64 0,.int .u64 0,.int .u64 0,.int .u64 0,.int .u64 0,.int .u64 0,.int .u64 0,.int .u64 0,.int .u64 0,.int .u64 0,.int .u64 0,.int .u64 0,.int .u64 0,.int .u64 0,.int .u64 0,.int .u64 0,.int .u64 0,.int .u64 0,.int .u64 0,.int .u64 0,.int .u64 0,.int .u64 0,.int .u64 0,.int .u64 0,.int .u64 0,.int .u64 0,.int .u64 0,.int .u64 0,.int .u64 0,.int .u64 0,.int .u64 0,.int .u64 0,.int .u64 0,.int .u64 0,.int .u64 0,.int .u64 0,.int .u64 0,.int .u64 0,.int .u64 0,.int .u64 0,.int .u64 0,.int .u64 0,.int .u64 0,.int .u64 0,.int .u64 0,.int .u64 0,.int .u64 0,.int .u64 0] := rfl
theorem adj_facts {N : Nat} {Es : List Ed} (h : GOK (N : Int) Es) : SymA (adjE N Es) /\ (∀ a,((adjE N Es).getD a 0).testBit a = false) /\ ∀ a j,((adjE N Es).getD a 0).testBit j = true -> j < N := by
 obtain ⟨_,_,hb⟩ := adj_spec h;refine ⟨fun a b => ?_,fun a => ?_,fun a j hj => ?_⟩
 ·rw [hb,hb,Bool.or_comm]
 ·rw [hb];cases e : (decide (((a : Int),(a : Int)) ∈ Es) || decide (((a : Int),(a : Int)) ∈ Es)) with
  | false => rfl
  | true =>
    simp only [Bool.or_self,decide_eq_true_eq] at e;have := h.2.2 _ e;simp only at this;omega
 ·rw [hb] at hj;simp only [Bool.or_eq_true,decide_eq_true_eq] at hj;rcases hj with hj | hj <;> (have := h.2.2 _ hj; simp only at this; omega)
theorem peel_len {A : List Nat} {N : Nat} (hN : N <= 64) {o ds : List Nat} (h : PeelR A (2 ^ N - 1) o ds) : o.length = N /\ ds.length = N /\ o.Nodup /\ ∀ j,j ∈ o ↔ j < N := by
 have hp : 2 ^ N <= 2 ^ 64 := Nat.pow_le_pow_right (by decide) hN;obtain ⟨a,b,c⟩ := peel_mem (by have : (2:Nat) ^ 64 = 18446744073709551616 := rfl; have := Nat.two_pow_pos N; omega) h;have hm : ∀ j,j ∈ o ↔ j < N := fun j => by rw [a,full_bit]; simp
 have hp : o.Perm (List.range N) := (List.perm_ext_iff_of_nodup b List.nodup_range).2 fun j => by rw [hm,List.mem_range]
 have hl := hp.length_eq;rw [List.length_range] at hl;exact ⟨hl,by omega,b,hm⟩
theorem peel_run {N : Nat} {Es : List Ed} (hG : GOK (N : Int) Es) (hE : Es.length < 1000000) (h0 : 0 < N) : ∃ o ds,PeelR (adjE N Es) (2 ^ N - 1) o ds /\ callL cfgS nQW [.agg [.int .i64 N,.list 2 (eds Es)]] [peG N (eds Es),peG N (eds Es)] = some (.tup [.sl 1 2 0 N,.sl 1 3 0 N],[peG N (eds Es),peG N (eds Es),some (ints (ns o)),some (ints (pnum o ds 0 (List.replicate N 0)))]) := by
 have hN : N <= 64 := by have := hG.1.2; omega
 obtain ⟨hA,hAs,_⟩ := adj_spec hG;obtain ⟨hS,hI,hb⟩ := adj_facts hG;obtain ⟨D,B,f1,f2,f3⟩ := fi_loop N (eds Es) (adjE N Es) hN hA hAs hI N 0 _ _ (by omega) (pck_zero N) (fun j hj => by omega);have hP := pst_full hN hb f1 f2
 have pc : pcn (2 ^ N - 1) <= 64 := by
  unfold pcn;have := List.length_filter_le (fun j => (2 ^ N - 1 : Nat).testBit j) (List.range 64)
  rwa [List.length_range] at this
 obtain ⟨o,ds,D',B',k',p1,p2⟩ := pe_out N (eds Es) (adjE N Es) hN hS hI hA hAs (2 ^ N - 1) [] (List.replicate N 0) D B 0 [] (.inl rfl) hP (by simpa using pc) List.length_replicate;rw [List.nil_append] at p2;refine ⟨o,ds,p1,?_⟩;obtain ⟨ol,dl,_,_⟩ := peel_len hN p1;have rr := rows_run hG (by omega);have ma := mall_run N hN;have lo : (ns o).length = N := by rw [ns_length]; exact ol
 have ln : (pnum o ds 0 (List.replicate N 0)).length = N := by rw [pnum_len,List.length_replicate]
 have e1 : List.replicate N (AV.int .i64 0) = ints (List.replicate N 0) := by simp [ints]
 have e2 : ns (List.replicate N 0) = List.replicate N 0 := by simp [ns]
 have t1 : (ints (ns o)).take N = ints (ns o) := List.take_of_length_le (by rw [ints_length]; omega);have t2 : (ints (pnum o ds 0 (List.replicate N 0))).take N = ints (pnum o ds 0 (List.replicate N 0)) := List.take_of_length_le (by rw [ints_length]; omega);have l1 : (ints (ns o)).length = N := by rw [ints_length]; omega
 have l2 : (ints (pnum o ds 0 (List.replicate N 0))).length = N := by rw [ints_length]; omega
 have l3 := us_length (adjE N Es);have fl1 := flatCells_ints (ns o);have fl2 := flatCells_ints (pnum o ds 0 (List.replicate N 0));have nz : ¬ N = 0 := by omega
 have nL : (N : Int) <= (LIM : Int) := by unfold LIM; omega
 unfold fst9 at f3;unfold pst9 at p2;rw [us_z64,e2,nat0] at f3;simp only [ints_nil,nat0] at p2;obtain ⟨x1,x2,x3,x4,x5,x6,_⟩ := bx_us B;obtain ⟨y1,y2,y3,y4,y5,y6,_⟩ := bx_us B';rw [callL_end oQW sQW (Nat.le_of_ble_eq_true rfl)];unfold peG at *;generalize us B = U1 at *;generalize us B' = U2 at *;generalize ints (ns o) = O1 at *;generalize ints (pnum o ds 0 (List.replicate N 0)) = L1 at *;generalize ints (List.replicate N 0) = Z1 at *;generalize ints (ns D) = D1 at *;generalize ints (ns D') = D2 at *;rw [hA] at l3;generalize us (adjE N Es) = A1 at *;generalize eds Es = Y at *;generalize 2 ^ N - 1 = m0 at *;clear hP f1 f2 p1 hG hS hI hb;unfold qQW cQW;simp [rQWX0,rQWX1,rQWX2,rQWX3,rQWX4,rQWX5,rQWX6,rQWX7,rQWX8,rQWX9,rQWX10,rQWX11,rQWX12,rQWX13,rQWX14,rQWX15,rQWX16,rQWX17,rQWX18,rQWX19,rQWX20,rQWX21,rQWX22,rQWX23,rQWX24,rQWX25,rQWX26,rQWX27,rQWX28,rQWX29,rQWX30,rQWX31,rQWX32,rr,ma,f3,p2,e1,t1,t2,l1,l2,l3,fl1,fl2,nz,nL,x1,x2,x3,x4,x6,y1,y2,y3,y4,y6,el,finX,boxUp,noB,finB,endL,blk,plp,plpL,swS,allB,notBox,swC,seesC,inBox,sQa0,iQa0,lQa0,sQa3,iQa3,lQa3]
/- What a run asks of a box of ints; slices.Reverse of ints. -/
theorem rvG_ints (l : List Int) (h : l.length <= 4294967296) : rvG 1 (ints l) [] = some (ints l.reverse,none) := by
 unfold rvG;rw [if_pos ⟨rfl,rfl,by rw [ints_length]; exact h⟩,show intsOf (ints l) = some l from intsOf_ints l];rfl
structure Lf (D : List AV) : Prop where
 bo : borL D = []
 ow : hasOwnL D = false
 mp : ∀ g,mapBL g D = D
 pl : plL D = true
 pt : ptrsL D = []
 np : ∀ b,noPtrL b D = true
 av : avLE D D = true
 pp : plpL D = true
 fz : fzL D = true
 fl : flatCells D = D
 fr : frzCL D = some D
theorem lf_ints (l : List Int) : Lf (ints l) := by
 induction l with
 | nil => exact ⟨rfl,rfl,fun _ => rfl,rfl,rfl,fun _ => rfl,rfl,rfl,rfl,rfl,rfl⟩
 | cons x r ih =>
   refine ⟨?_,?_,fun g => ?_,?_,?_,fun b => ?_,?_,?_,?_,flatCells_ints _,?_⟩
   ·exact ih.bo
   ·exact ih.ow
   ·show AV.int .i64 x :: mapBL g (ints r) = _;rw [ih.mp]; rfl
   ·exact ih.pl
   ·exact ih.pt
   ·exact ih.np b
   ·show (decide _ && avLE (ints r) (ints r)) = true;rw [ih.av]; simp
   ·exact ih.pp
   ·exact ih.fz
   ·show (match frzC (.int .i64 x),frzCL (ints r) with | some y,some ys => some (y :: ys) | _,_ => none) = _;rw [ih.fr]; rfl
/- core.Order and maxclique.Colours. -/
theorem cord_run {N : Nat} {Es : List Ed} (hG : GOK (N : Int) Es) (hE : Es.length < 1000000) (h0 : 0 < N) : ∃ o ds,PeelR (adjE N Es) (2 ^ N - 1) o ds /\ callL cfgS nQC [.agg [.int .i64 N,.list 2 (eds Es)]] [peG N (eds Es)] = some (.tup [.sl 1 2 0 N,.int .i64 0],[peG N (eds Es),peG N (eds Es),some (ints (ns o))]) := by
 obtain ⟨o,ds,hp,pr⟩ := peel_run hG hE h0;refine ⟨o,ds,hp,?_⟩;have g := gchk_run (N : Int) Es (by omega);rw [chkG_zero.2 hG] at g;obtain ⟨a1,a2,a3,a4,a5,a6,a7,a8,a9,aa,ab⟩ := lf_ints (ns o);obtain ⟨b1,b2,b3,b4,b5,b6,b7,b8,b9,ba,bb⟩ := lf_ints (pnum o ds 0 (List.replicate N 0));rw [callL_end oQC sQC (Nat.le_of_ble_eq_true rfl)];unfold peG at *;generalize ints (ns o) = O1 at *;generalize ints (pnum o ds 0 (List.replicate N 0)) = L1 at *;generalize eds Es = Y at *;unfold qQC cQC;simp [rQCX0,rQCX1,rQCX2,rQCX3,rQCX4,rQCX5,g,pr,a1,a2,a3,a4,a5,a6,a7,a8,a9,aa,ab,b1,b2,b3,b4,b5,b6,b7,b8,b9,ba,bb,blk,endL,finB,plp,plpL,plL,pl,allB,notBox,swC,swS,seesC,inBox,offBoxes,offLab,calmB,ptrs,ptrsL,blkE,avE,avLE,sQW,iQW,lQW,sQu,iQu,lQu]
def isC0 : Option (AV × Heap) -> Bool
 | some (.tup [.list 1 [],.int .i64 0],[]) => true
 | _ => false
theorem isC0_eq {r : Option (AV × Heap)} (h : isC0 r = true) : r = some (.tup [.list 1 [],.int .i64 0],[]) := by
 unfold isC0 at h;split at h
 ·rfl
 ·cases h
theorem col0_all : isC0 (callB cfgS 300 nQm [.agg [.int .i64 0,.list 2 []]] []) = true := by kernel_rfl
theorem col0_run : callL cfgS nQm [.agg [.int .i64 0,.list 2 []]] [] = some (.tup [.list 1 [],.int .i64 0],[]) := callL_iff.2 ⟨300,isC0_eq col0_all⟩
theorem rangeI_up (n : Int) : Up (rangeI n) := by
 unfold rangeI Up;rw [List.pairwise_map];exact List.pairwise_lt_range.imp fun h => by omega
theorem rangeI_mem {N : Nat} (hN : N <= 64) (x : Int) : x ∈ rangeI (N : Int) ↔ 0 <= x /\ x < N := by
 unfold rangeI;rw [List.mem_map];constructor
 ·rintro ⟨j,hj,rfl⟩;have := List.mem_range.1 hj;omega
 ·rintro ⟨a,b⟩;exact ⟨x.toNat,List.mem_range.2 (by omega),by omega⟩
theorem rev_range {N : Nat} (hN : N <= 64) {o : List Nat} (hl : o.length = N) (hn : o.Nodup) (hm : ∀ j,j ∈ o ↔ j < N) : (ns o).reverse.length = N /\ setOf (ns o).reverse = rangeI N /\ (∀ v ∈ (ns o).reverse,0 <= v /\ v < (N : Int)) /\ ∀ i : Nat,i < N -> (i : Int) ∈ (ns o).reverse := by
 have mem : ∀ v : Int,v ∈ (ns o).reverse ↔ ∃ j : Nat,v = j /\ j < N := fun v => by
  rw [List.mem_reverse];unfold ns;rw [List.mem_map];constructor
  ·rintro ⟨j,hj,rfl⟩; exact ⟨j,rfl,(hm j).1 hj⟩
  ·rintro ⟨j,rfl,hj⟩; exact ⟨j,(hm j).2 hj,rfl⟩
 refine ⟨by rw [List.length_reverse,ns_length,hl],?_,fun v hv => ?_,fun i hi => (mem i).2 ⟨i,rfl,hi⟩⟩
 ·obtain ⟨s1,s2⟩ := setOf_spec (ns o).reverse;refine up_ext s1 (rangeI_up N) fun x => ?_;rw [s2,mem,rangeI_mem hN];constructor
  ·rintro ⟨j,rfl,h⟩; omega
  ·intro h; exact ⟨x.toNat,by omega,by omega⟩
 ·obtain ⟨j,rfl,h⟩ := (mem v).1 hv;omega
theorem colours_run {N : Nat} {Es : List Ed} (hG : GOK (N : Int) Es) (hE : Es.length < 1000000) : ∃ o ds,PeelR (adjE N Es) (2 ^ N - 1) o ds /\ callL cfgS nQm [.agg [.int .i64 N,.list 2 (eds Es)]] [] = some (.tup [.list 1 (ints (grc (nbF9 N Es) N (ns o).reverse)),.int .i64 0],[]) := by
 have hN : N <= 64 := by have := hG.1.2; omega
 by_cases h0 : N = 0
 ·subst h0
  have : Es = [] := by
   cases Es with
   | nil => rfl
   | cons e r => have := hG.2.2 e List.mem_cons_self; omega
  subst this;exact ⟨[],[],.nil,col0_run⟩
 ·obtain ⟨o,ds,hp,pr⟩ := cord_run hG hE (by omega);refine ⟨o,ds,hp,?_⟩;obtain ⟨ol,_,nd,om⟩ := peel_len hN hp;obtain ⟨q1,q2,q3,q4⟩ := rev_range hN ol nd om;have cr := colour_run hG hE (ns o).reverse q1 q2 q3;have r1 := rvG_ints (ns o) (by rw [ns_length]; omega);have l1 : (ints (ns o)).length = N := by rw [ints_length,ns_length]; exact ol
  have l2 : (ints (ns o).reverse).length = N := by rw [ints_length]; exact q1
  have t1 : (ints (ns o)).take N = ints (ns o) := List.take_of_length_le (by omega);have t2 : (ints (ns o).reverse).take N = ints (ns o).reverse := List.take_of_length_le (by omega);have k1 : (ints (ns o)).drop N = [] := List.drop_eq_nil_of_le (by omega);obtain ⟨a1,a2,a3,a4,a5,a6,a7,a8,a9,aa,ab⟩ := lf_ints (ns o);obtain ⟨b1,b2,b3,b4,b5,b6,b7,b8,b9,ba,bb⟩ := lf_ints (ns o).reverse;have pg := plL_ints (grc (nbF9 N Es) N (ns o).reverse);rw [callL_end oQm sQm (Nat.le_of_ble_eq_true rfl)];unfold peG at *;generalize ints (grc (nbF9 N Es) N (ns o).reverse) = R1 at *;generalize ints (ns o).reverse = O2 at *;generalize ints (ns o) = O1 at *;generalize eds Es = Y at *;unfold qQm cQm;simp [rQmX0,rQmX1,rQmX2,rQmX3,rQmX4,rQmX5,h0,pr,cr,r1,l1,l2,t1,t2,k1,pg,a1,a2,a3,a4,a5,a6,a7,a8,a9,aa,ab,b1,b2,b3,b4,b5,b6,b7,b8,b9,ba,bb,blk,endL,finB,plp,plpL,plL,pl,Bm.inpS,allB,notBox,swC,swS,seesC,inBox,offBoxes,offLab,calmB,ptrs,ptrsL,blkE,avE,avLE,slAt,snkB,sQC,iQC,lQC,sQj,iQj,lQj,iQD,lQD]
end Go.BmP
