/- mk.Light, mk.New beside two boxes, same; the law's rounds: one set. -/
import Derived.Test.YteomjfokokneoaaDoorUseM
import Derived.Test.YteomjfokokneoaaDoorBbG
import Derived.KernelRfl
set_option linter.unusedSimpArgs false
set_option linter.unusedVariables false
set_option maxRecDepth 100000
set_option maxHeartbeats 8000000
open List renaming getElem?_eq_getElem → aI, getElem_mem → ed
open Nat renaming le_of_ble_eq_true → an
open Option.some renaming inj → dm
namespace Go.BmP
open Go.Am Go.Bm
theorem Uu (n : Int) (F : List Ed) (m : Int) (hm : 0 <= m /\ m <= 1000) : bk aA nJc [.agg [.int .i64 n,.list 2 (dy F)],.int .i64 m] [] = some (.bool (decide (n <= m) && decide ((F.length : Int) <= m * m)),[]) := by
 rw [aM oJc sJc (an rfl)];have lF := ai F
 have w : IntKind.i64.wrap (m * m) = m * m := by
  obtain ⟨h0,h1⟩ := hm;have : m * m <= 1000 * 1000 := Int.mul_le_mul h1 h1 h0 (by omega);have : 0 <= m * m := Int.mul_nonneg h0 h0;exact yj (by omega) (by omega)
 generalize dy F = Y at *;by_cases k : n <= m
 ·by_cases q : (F.length : Int) <= m * m
  ·unfold qJc cJc;simp [Rl,Rk,k,q,w,lF,aH,aP,aK]
  ·unfold qJc cJc;simp [Rl,Rk,k,q,w,lF,aH,aP,aK]
 ·unfold qJc cJc;simp [Rl,Rk,k,w,lF,aH,aP,aK]
theorem p9 (A B : List Int) (hA : A.length <= 64) (hB : B.length <= 64) : bk aA Uj [pB A B,pB A B] [] = some (.bool true,[]) := by
 have := xd A B A B (by omega) (by omega) (by omega) (by omega)
 rwa [decide_eq_true ⟨rfl,rfl⟩] at this
theorem EL (o : List (List Int × List Int)) : (Kn o).length = o.length := List.length_map _
theorem ac3 {o : List (List Int × List Int)} {j : Nat} (hj : j < o.length) : (∀ h,(Kn o)[j]'h = pB o[j].1 o[j].2) /\ (Kn o)[j]? = some (pB o[j].1 o[j].2) := by
 have g1 : (Kn o)[j]? = (o[j]?).map fun p => pB p.1 p.2 := List.getElem?_map;rw [aI hj,Option.map_some] at g1;exact ⟨fun h => by rw [aI h] at g1; exact dm g1,g1⟩
theorem Fc (o : List (List Int × List Int)) (ho : o.length <= 5000) (hb : ∀ p ∈ o,p.1.length <= 64 /\ p.2.length <= 64) : ∀ k j : Nat,j + k = o.length -> aU aA 0 (.loop Sz) ⟨[(0,.list 2 (Kn o)),(1,.list 2 (Kn o)),(12,.int .i64 o.length),(13,.int .i64 j)],[]⟩ =
  some (.exit 0,⟨[(0,.list 2 (Kn o)),(1,.list 2 (Kn o)),(12,.int .i64 o.length),(13,.int .i64 o.length),(14,.bool false)],[]⟩)
 | 0,j,hj => by
   obtain rfl : j = o.length := by omega
   refine bC ?_;generalize Kn o = P at *;unfold Sz;simp [Q3,Q2,Q0,QZ,QY,QX,QW,QV,QU,QT,aH,ai,au,aG,aT,af,ah,ae,aa,ak,az,aP,aK]
 | k + 1,j,hj => by
   have bA : j < o.length := by omega
   have h1 : (j : Int) < o.length := by omega
   have hw := fm (i := j) (by omega);have lp := EL o;obtain ⟨g1,g2⟩ := ac3 bA;have hx := hb _ (ed bA);have sm := p9 o[j].1 o[j].2 hx.1 hx.2;have ih := Fc o ho hb k (j + 1) (by omega);refine (ba ?_).trans ih;clear ih hb;unfold pB at *;generalize ints o[j].1 = A at *;generalize ints o[j].2 = B at *;generalize Kn o = P at *;unfold Sz;simp [Q3,Q2,Q0,QZ,QY,QX,QW,QV,QU,QT,h1,bA,hw,lp,g1,g2,sm,idx,sJq,iJq,lJq,aH,ai,au,aG,aT,af,ah,ae,aa,ak,az,aP,aK]
theorem Ur (o : List (List Int × List Int)) (ho : o.length <= 5000) (hb : ∀ p ∈ o,p.1.length <= 64 /\ p.2.length <= 64) : bk aA nJu [.list 2 (Kn o),.list 2 (Kn o)] [] = some (.bool true,[]) := by
 have l := Fc o ho hb o.length 0 (by omega);rw [jj] at l;have lp := EL o;rw [aM oJu sJu (an rfl)];generalize Kn o = P at *;unfold qJu cJu;simp [Q3,Q2,Q0,QZ,QY,QX,QW,QV,QU,QT,l,lp,aH,ai,au,aG,aT,af,ah,ae,aa,ak,az,aP,aK]
def bH (n0 : Int) (F0 : List Ed) (L0 p1 p2 : List Int) (l : List Int) (a : Nat) (n : Int) (F : List Ed) (L : List Int) : Heap := [some [.int .i64 n0,.list 2 (dy F0),.list 1 (ints L0)],some [.list 1 (ints p1),.list 1 (ints p2)],dk l a,some [.int .i64 n,.list 2 (dy F),.list 1 (ints L)]]
def bE (st : List Int) (m : Int) (GS : List AV) (i : Int) (J : Env) : Env := (1,.list 1 (ints st)) :: (4,.int .i64 m) :: (8,.ptr 1 0) :: (11,.ptr 2 0) :: (15,.ptr 3 0) :: (80,.own 3 GS) :: (81,.int .i64 3) :: (82,.int .i64 i) :: J
theorem aei (n0 : Int) (F0 : List Ed) (L0 p1 p2 : List Int) (l : List Int) (a : Nat) (n : Int) (F : List Ed) (L : List Int) (hC : Qk n F L) (st : List Int) (m : Int) (GS : List AV) (i : Int) (ss : List (List Int)) (hs : ∀ S ∈ ss,S.length <= 64) (hl : ss.length <= 1000) (j : Nat) (hj : j < ss.length) :
  aU aA 0 MU ⟨bE st m GS i [(108,.own 1 (sS ss)),(109,.int .i64 ss.length),(110,.int .i64 j)],bH n0 F0 L0 p1 p2 l a n F L⟩ = some (.normal,⟨bE st m GS i [(108,.own 1 (sS ss)),(109,.int .i64 ss.length),(110,.int .i64 ((j + 1 : Nat) : Int))],bH n0 F0 L0 p1 p2 l a n F L⟩) := by
 have hS := hs _ (ed hj);obtain ⟨g1,g2⟩ := Py (aI hj);have lg := mP ss;have h1 : (j : Int) < ss.length := by omega
 have hw := fm (i := j) (by omega);generalize ss[j] = S at *;obtain ⟨A,B,e,lA,lB,x1,x2⟩ := hC.cl S hS;obtain ⟨A2,B2,b,e2,lA2,lB2,n1,n2⟩ := hC.nx S hS;obtain ⟨b2,m1,m2⟩ := hC.mx A B (by omega) (by omega);have k1 := p9 A B lA lB;have k2 := p9 A2 B2 lA2 lB2;have pS := jV S;have pA := jV A;have pB1 := jV B;have pA2 := jV A2;have pB2 := jV B2;unfold gS pB at *;clear hC hs;unfold bE bH dk;generalize ints S = S1 at *;generalize ints A = A1 at *;generalize ints B = B1 at *;generalize ints A2 = A3 at *;generalize ints B2 = B3 at *;generalize sS ss = SS at *;generalize ints st = T1 at *;generalize dy F = Y at *;generalize ints L = Z at *;generalize dy F0 = Y0 at *;generalize ints L0 = Z0 at *;generalize ints p1 = P1 at *;generalize ints p2 = P2 at *;generalize ints l = D1 at *;unfold MU;simp [rH,rG,rF,rE,rD,rC,rB,rA,rz,rq,mJ,mI,mH,mG,mF,mE,mD,mC,mB,mz,my,mw,mu,mr,mq,mo,mn,mm,mj,mi,mh,mg,mf,mc,mb,ma,h1,hj,hw,lg,g1,g2,x1,x2,n1,n2,m1,m2,k1,k2,pS,pA,pB1,pA2,pB2,idx,aH,j5,pl,fj,clean,sJm,iJm,lJm,VX,iJn,lJn,sJo,iJo,lJo,sJp,iJp,lJp,sJj,iJj,lJj,sJk,iJk,lJk,sJq,iJq,lJq]
/- The law's body for one graph. -/
theorem Tn (n0 : Int) (F0 : List Ed) (L0 p1 p2 : List Int) (l : List Int) (a : Nat) (n : Int) (F : List Ed) (L : List Int) (hC : Qk n F L) (st : List Int) (m : Int) (GS : List AV) (i : Int) (ss : List (List Int)) (hs : ∀ S ∈ ss,S.length <= 64) (hl : ss.length <= 1000) : ∀ k j : Nat,j + k = ss.length ->
  aU aA 0 (.loop MU) ⟨bE st m GS i [(108,.own 1 (sS ss)),(109,.int .i64 ss.length),(110,.int .i64 j)],bH n0 F0 L0 p1 p2 l a n F L⟩ = some (.exit 2,⟨bE st m GS i [(108,.own 1 (sS ss)),(109,.int .i64 ss.length),(110,.int .i64 ss.length),(111,.bool false)],bH n0 F0 L0 p1 p2 l a n F L⟩)
 | 0,j,hj => by
   obtain rfl : j = ss.length := by omega
   refine bC ?_;unfold bE bH dk;generalize sS ss = SS at *;generalize ints st = T1 at *;generalize dy F = Y at *;generalize ints L = Z at *;generalize dy F0 = Y0 at *;generalize ints L0 = Z0 at *;generalize ints p1 = P1 at *;generalize ints p2 = P2 at *;generalize ints l = D1 at *;unfold MU;simp [rH,rG,rF,rE,rD,rC,rB,rA,rz,rq,mJ,mI,mH,mG,mF,mE,mD,mC,mB,mz,my,mw,mu,mr,mq,mo,mn,mm,mj,mi,mh,mg,mf,mc,mb,ma,aH]
 | k + 1,j,hj => (ba (aei n0 F0 L0 p1 p2 l a n F L hC st m GS i ss hs hl j (by omega))).trans (Tn n0 F0 L0 p1 p2 l a n F L hC st m GS i ss hs hl k (j + 1) (by omega))
theorem aej (n0 : Int) (F0 : List Ed) (L0 p1 p2 : List Int) (l : List Int) (a : Nat) (n : Int) (F : List Ed) (L : List Int) (hC : Qk n F L) (st : List Int) (m : Int) (GS : List AV) (i : Int) (ms : List Int) (hl : ms.length <= 1000) (j : Nat) (hj : j < ms.length) :
  aU aA 0 MT ⟨bE st m GS i [(178,.own 1 (ints ms)),(179,.int .i64 ms.length),(180,.int .i64 j)],bH n0 F0 L0 p1 p2 l a n F L⟩ = some (.normal,⟨bE st m GS i [(178,.own 1 (ints ms)),(179,.int .i64 ms.length),(180,.int .i64 ((j + 1 : Nat) : Int))],bH n0 F0 L0 p1 p2 l a n F L⟩) := by
 have g1 : ∀ h,(ints ms)[j]'h = .int .i64 ms[j] := fun h => az _ _ _;have lg := aa ms;have h1 : (j : Int) < ms.length := by omega
 have hw := fm (i := j) (by omega);obtain ⟨o,e,lo,bo,x1,x2⟩ := hC.al ms[j];have sm := Ur o lo bo;generalize ms[j] = x at *;unfold gS at *;clear hC bo lo;unfold bE bH dk;generalize Kn o = O1 at *;generalize ints ms = M1 at *;generalize ints st = T1 at *;generalize dy F = Y at *;generalize ints L = Z at *;generalize dy F0 = Y0 at *;generalize ints L0 = Z0 at *;generalize ints p1 = P1 at *;generalize ints p2 = P2 at *;generalize ints l = D1 at *;unfold MT;simp [rH,rG,rF,rE,rD,rC,rB,rA,rz,rq,mJ,mI,mH,mG,mF,mE,mD,mC,mB,mz,my,mw,mu,mr,mq,mo,mn,mm,mj,mi,mh,mg,mf,mc,mb,ma,h1,hj,hw,lg,g1,x1,x2,sm,idx,aH,sJs,iJs,lJs,sJt,iJt,lJt,sJu,iJu,lJu]
theorem Tp (n0 : Int) (F0 : List Ed) (L0 p1 p2 : List Int) (l : List Int) (a : Nat) (n : Int) (F : List Ed) (L : List Int) (hC : Qk n F L) (st : List Int) (m : Int) (GS : List AV) (i : Int) (ms : List Int) (hl : ms.length <= 1000) : ∀ k j : Nat,j + k = ms.length ->
  aU aA 0 (.loop MT) ⟨bE st m GS i [(178,.own 1 (ints ms)),(179,.int .i64 ms.length),(180,.int .i64 j)],bH n0 F0 L0 p1 p2 l a n F L⟩ = some (.exit 4,⟨bE st m GS i [(178,.own 1 (ints ms)),(179,.int .i64 ms.length),(180,.int .i64 ms.length),(181,.bool false)],bH n0 F0 L0 p1 p2 l a n F L⟩)
 | 0,j,hj => by
   obtain rfl : j = ms.length := by omega
   refine bC ?_;unfold bE bH dk;generalize ints ms = M1 at *;generalize ints st = T1 at *;generalize dy F = Y at *;generalize ints L = Z at *;generalize dy F0 = Y0 at *;generalize ints L0 = Z0 at *;generalize ints p1 = P1 at *;generalize ints p2 = P2 at *;generalize ints l = D1 at *;unfold MT;simp [rH,rG,rF,rE,rD,rC,rB,rA,rz,rq,mJ,mI,mH,mG,mF,mE,mD,mC,mB,mz,my,mw,mu,mr,mq,mo,mn,mm,mj,mi,mh,mg,mf,mc,mb,ma,aH]
 | k + 1,j,hj => (ba (aej n0 F0 L0 p1 p2 l a n F L hC st m GS i ms hl j (by omega))).trans (Tp n0 F0 L0 p1 p2 l a n F L hC st m GS i ms hl k (j + 1) (by omega))
def bO (st : List Int) (m : Int) (GS : List AV) (i : Int) (J : Env) : Env := (1,.list 1 (ints st)) :: (4,.int .i64 m) :: (8,.ptr 1 0) :: (11,.ptr 2 0) :: (80,.own 3 GS) :: (81,.int .i64 3) :: (82,.int .i64 i) :: J
def bB (n0 : Int) (F0 : List Ed) (L0 p1 p2 : List Int) (l : List Int) (a : Nat) : Heap := [some [.int .i64 n0,.list 2 (dy F0),.list 1 (ints L0)],some [.list 1 (ints p1),.list 1 (ints p2)],dk l a]
theorem YV (n0 : Int) (F0 : List Ed) (L0 p1 p2 : List Int) (SN : p1.length <= 9223372036854775807) (XS : p2.length <= 9223372036854775807) (l : List Int) (hl : l.length <= 500) (a : Nat) (n : Int) (F : List Ed) (L : List Int) (lL : L.length <= 64) (hC : Qk n F L) (st : List Int) (Ak : st.length <= 20) (m : Int) (GS : List AV) (i : Nat) (hi : i < 3) (lG : GS.length = 3) (g : GS[i]? = some (gS n F L)) :
  ∃ a',aU aA 0 MS ⟨bO st m GS i [],bB n0 F0 L0 p1 p2 l a⟩ = some (.normal,⟨bO st m GS ((i + 1 : Nat) : Int) [],bB n0 F0 L0 p1 p2 l a'⟩) := by
 have i3 : (i : Int) < 3 := by omega
 have hw := fm (i := i) (by omega);have g' : ∀ h : i < GS.length,GS[i] = gS n F L := fun h => by rw [aI h] at g; exact dm g
 have iG : i < GS.length := by omega
 obtain ⟨e0,c1,c2⟩ := hC.ck;obtain ⟨b0,m1,m2⟩ := hC.mx p1 p2 SN XS;obtain ⟨o,a1,n1,lo,uo,_⟩ := CP l hl 8 (by omega) [] ⟨fun _ => rfl,rfl,fun _ _ => rfl,fun _ => rfl,fun _ _ => rfl⟩ a;obtain ⟨o2,a2,n2,lo2,uo2,_⟩ := CP l hl 8 (by omega) [] ⟨fun _ => rfl,rfl,fun _ _ => rfl,fun _ => rfl,fun _ _ => rfl⟩ a1;have me := Xj o2 L (by omega) (by omega)
 have lm : (meet o2 L).length <= 64 := lD (vJ _ _).1 fun x hx => by
  rename_i bo2;have := bo2 x (((vJ _ _).2 x).1 hx).1;omega
 have n3 := uF l hl a2 7 (by omega) [] ⟨fun _ => rfl,rfl,fun _ _ => rfl,fun _ => rfl,fun _ _ => rfl⟩;generalize Vt l a2 7 = a3 at *;generalize Ug l a2 7 = d at *;generalize meet o2 L = o3 at *
 have l1 := Tn n0 F0 L0 p1 p2 l a2 n F L hC st m GS i [st,o,o3,[]] (by
  intro S hS;simp only [List.mem_cons,List.not_mem_nil,or_false] at hS;rcases hS with rfl | rfl | rfl | rfl
  ·omega
  ·omega
  ·omega
  ·simp) (by simp) 4 0 rfl
 have l2 := Tp n0 F0 L0 p1 p2 l a3 n F L hC st m GS i [m,d,4096] (by simp) 3 0 rfl;obtain ⟨A,B,e,lA,lB,x1,x2⟩ := hC.bs;have sm := p9 A B lA lB;refine ⟨a3,?_⟩;rw [show sS [st,o,o3,[]] = [.list 1 (ints st),.list 1 (ints o),.list 1 (ints o3),.list 1 []] from rfl,show (([st,o,o3,[]] : List (List Int)).length : Int) = 4 from rfl,jj] at l1;rw [show ints [m,d,4096] = [.int .i64 m,.int .i64 d,.int .i64 4096] from rfl,show (([m,d,4096] : List Int).length : Int) = 3 from rfl,jj] at l2;rw [show ((8 : Nat) : Int) = 8 from rfl] at n1 n2;have pT := jV st;have pO := jV o;have pO2 := jV o2;have pO3 := jV o3;unfold gS pB at *;unfold bE bH at l1 l2;unfold bO bB;unfold dk at *;generalize ints A = A1 at *;generalize ints B = B1 at *;generalize ints st = T1 at *;generalize ints o = O1 at *;generalize ints o2 = O2 at *;generalize ints o3 = O3 at *;generalize dy F = Y at *;generalize ints L = Z at *;generalize dy F0 = Y0 at *;generalize ints L0 = Z0 at *;generalize ints p1 = P1 at *;generalize ints p2 = P2 at *;generalize ints l = D1 at *;clear hC;unfold MS;simp [rH,rG,rF,rE,rD,rC,rB,rA,rz,rq,mJ,mI,mH,mG,mF,mE,mD,mC,mB,mz,my,mw,mu,mr,mq,mo,mn,mm,mj,mi,mh,mg,mf,mc,mb,ma,i3,hi,hw,iG,lG,g,g',c1,c2,m1,m2,n1,n2,n3,me,l1,l2,x1,x2,sm,pT,pO,pO2,pO3,idx,aH,j5,pl,js,fx,gj,cz,jP,eC,dT,sJg,iJg,lJg,ZD,iJr,lJr,sJl,iJl,lJl,Cn,Fs,Fj,KH,Oi,Oh,sJj,iJj,lJj,sJk,iJk,lJk,sJv,iJv,lJv,sJw,iJw,lJw,sJq,iJq,lJq]
/- The law: all functions answer as the reference does. -/
theorem W6 (l : List Int) (n : Int) (F : List Ed) (L p1 p2 : List Int) : bk aA nJe [.list 1 (ints l)] [some [.int .i64 n,.list 2 (dy F),.list 1 (ints L)],some [.list 1 (ints p1),.list 1 (ints p2)]] = some (.ptr 2 0,[some [.int .i64 n,.list 2 (dy F),.list 1 (ints L)],some [.list 1 (ints p1),.list 1 (ints p2)],dk l 0]) := by
 rw [aM oJe sJe (an rfl)];generalize dy F = Y;generalize ints L = Z;generalize ints p1 = P1;generalize ints p2 = P2;unfold qJe cJe dk;simp [abK,abJ,mS,js,ft,cC,b8,oq,aP,aK,aH]
theorem abG : ∀ {S : List Int} (lo hi : Int),Up S -> (∀ x ∈ S,lo <= x /\ x < hi) -> S = [] \/ (S.length : Int) <= hi - lo
 | [],_,_,_,_ => .inl rfl
 | x :: r,lo,hi,hu,hb => by
   obtain ⟨u1,u2⟩ := List.pairwise_cons.1 hu;have hx := hb x (by simp);right;rcases abG (x + 1) hi u2 (fun y hy => by have := u1 y hy; have := hb y (by simp [hy]); omega) with e | e
   ·subst e; simp; omega
   ·simp; omega
theorem aeh (x y z : AV) : ∀ i : Nat,i < 3 -> ([x,y,z] : List AV)[i]? = some (if i = 0 then x else if i = 1 then y else z)
 | 0,_ => rfl
 | 1,_ => rfl
 | 2,_ => rfl
 | i + 3,h => by omega
theorem To (n0 : Int) (F0 : List Ed) (L0 p1 p2 : List Int) (SN : p1.length <= 9223372036854775807) (XS : p2.length <= 9223372036854775807) (l : List Int) (hl : l.length <= 500) (m1 m2 m3 : Int) (F1 F2 F3 : List Ed) (L1 L2 L3 : List Int) (h1 : Qk m1 F1 L1) (h2 : Qk m2 F2 L2) (h3 : Qk m3 F3 L3) (l1 : L1.length <= 64) (l2 : L2.length <= 64) (l3 : L3.length <= 64) (st : List Int) (Ak : st.length <= 20) (m : Int) : ∀ k i a : Nat,i + k = 3 ->
  ∃ a',aU aA 0 (.loop MS) ⟨bO st m [gS m1 F1 L1,gS m2 F2 L2,gS m3 F3 L3] i [],bB n0 F0 L0 p1 p2 l a⟩ = some (.exit 0,⟨bO st m [gS m1 F1 L1,gS m2 F2 L2,gS m3 F3 L3] 3 [(83,.bool false)],bB n0 F0 L0 p1 p2 l a'⟩)
 | 0,i,a,hi => by
   obtain rfl : i = 3 := by omega
   refine ⟨a,bC ?_⟩;unfold bO bB gS dk;generalize ints st = T1 at *;generalize dy F0 = Y0 at *;generalize dy F1 = Y1 at *;generalize dy F2 = Y2 at *;generalize dy F3 = Y3 at *;generalize ints L0 = Z0 at *;generalize ints L1 = Z1 at *;generalize ints L2 = Z2 at *;generalize ints L3 = Z3 at *;generalize ints p1 = P1 at *;generalize ints p2 = P2 at *;generalize ints l = D1 at *;unfold MS;simp [rH,rG,rF,rE,rD,rC,rB,rA,rz,rq,mJ,mI,mH,mG,mF,mE,mD,mC,mB,mz,my,mw,mu,mr,mq,mo,mn,mm,mj,mi,mh,mg,mf,mc,mb,ma,aH]
 | k + 1,i,a,hi => by
   have key : ∃ n F L,Qk n F L /\ L.length <= 64 /\ ([gS m1 F1 L1,gS m2 F2 L2,gS m3 F3 L3] : List AV)[i]? = some (gS n F L) := by
    rw [aeh _ _ _ i (by omega)];by_cases e0 : i = 0
    ·exact ⟨m1,F1,L1,h1,l1,by rw [if_pos e0]⟩
    ·rw [if_neg e0];by_cases e1 : i = 1
     ·exact ⟨m2,F2,L2,h2,l2,by rw [if_pos e1]⟩
     ·exact ⟨m3,F3,L3,h3,l3,by rw [if_neg e1]⟩
   obtain ⟨n,F,L,hC,lL,hg⟩ := key;obtain ⟨a1,e⟩ := YV n0 F0 L0 p1 p2 SN XS l hl a n F L lL hC st Ak m [gS m1 F1 L1,gS m2 F2 L2,gS m3 F3 L3] i (by omega) rfl hg;obtain ⟨a',e2⟩ := To n0 F0 L0 p1 p2 SN XS l hl m1 m2 m3 F1 F2 F3 L1 L2 L3 h1 h2 h3 l1 l2 l3 st Ak m k (i + 1) a1 (by omega);exact ⟨a',(ba e).trans e2⟩
theorem YW (l st : List Int) (n0 : Int) (F0 : List Ed) (L0 p1 p2 : List Int) (SN : p1.length <= 9223372036854775807) (XS : p2.length <= 9223372036854775807) (m : Int) : bk aA nJa [.list 1 (ints l),.list 1 (ints st),.agg [.int .i64 n0,.list 2 (dy F0),.list 1 (ints L0)],.agg [.list 1 (ints p1),.list 1 (ints p2)],.int .i64 m] [] = some (.bool true,[]) := by
 rw [aM oJa sJa (an rfl)];have aw := abw;have few := aaL l;have lt := Uu n0 F0 9 (by omega);have lS := aa st;have lL := aa L0;have lp1 := aa p1;have lp2 := aa p2;by_cases hl : (l.length : Int) <= 500
 case neg =>
  generalize ints st = T1 at *;generalize dy F0 = Y0 at *;generalize ints L0 = Z0 at *;generalize ints p1 = P1 at *;generalize ints p2 = P2 at *;generalize ints l = D1 at *;unfold Z5 cJa;simp [rH,rG,rF,rE,rD,rC,rB,rA,rz,rq,mJ,mI,mH,mG,mF,mE,mD,mC,mB,mz,my,mw,mu,mr,mq,mo,mn,mm,mj,mi,mh,mg,mf,mc,mb,ma,few,hl,aw,lt,aH,aP,aK,sJb,iJb,lJb,sJd,iJd,lJd]
 by_cases hs : st.length <= 20
 case neg =>
  have h1 : (20 : Int) < st.length := by omega
  have h2 : 20 < st.length := by omega
  generalize ints st = T1 at *;generalize dy F0 = Y0 at *;generalize ints L0 = Z0 at *;generalize ints p1 = P1 at *;generalize ints p2 = P2 at *;generalize ints l = D1 at *;unfold Z5 cJa;simp [rH,rG,rF,rE,rD,rC,rB,rA,rz,rq,mJ,mI,mH,mG,mF,mE,mD,mC,mB,mz,my,mw,mu,mr,mq,mo,mn,mm,mj,mi,mh,mg,mf,mc,mb,ma,few,hl,aw,lt,lS,h1,h2,aH,aP,aK,sJb,iJb,lJb,sJd,iJd,lJd]
 have h1 : ¬ (20 : Int) < st.length := by omega
 have h2 : ¬ 20 < st.length := by omega
 by_cases hg : n0 <= 9 /\ F0.length <= 81
 case neg =>
  have e : (decide (n0 <= 9) && decide ((F0.length : Int) <= 9 * 9)) = false := by
   rw [Bool.and_eq_false_iff,decide_eq_false_iff_not,decide_eq_false_iff_not];by_cases q : n0 <= 9
   ·exact .inr (by have : ¬ F0.length <= 81 := fun k => hg ⟨q,k⟩; omega)
   ·exact .inl q
  rw [e] at lt;generalize ints st = T1 at *;generalize dy F0 = Y0 at *;generalize ints L0 = Z0 at *;generalize ints p1 = P1 at *;generalize ints p2 = P2 at *;generalize ints l = D1 at *;unfold Z5 cJa;simp [rH,rG,rF,rE,rD,rC,rB,rA,rz,rq,mJ,mI,mH,mG,mF,mE,mD,mC,mB,mz,my,mw,mu,mr,mq,mo,mn,mm,mj,mi,mh,mg,mf,mc,mb,ma,few,hl,aw,lt,lS,h1,h2,aH,aP,aK,sJb,iJb,lJb,sJd,iJd,lJd,sJc,iJc,lJc]
 obtain ⟨g1,g2⟩ := hg;rw [decide_eq_true g1,Bool.true_and,decide_eq_true (show (F0.length : Int) <= 9 * 9 by omega)] at lt;by_cases hL : L0.length <= 12
 case neg =>
  have h3 : (12 : Int) < L0.length := by omega
  have h4 : 12 < L0.length := by omega
  generalize ints st = T1 at *;generalize dy F0 = Y0 at *;generalize ints L0 = Z0 at *;generalize ints p1 = P1 at *;generalize ints p2 = P2 at *;generalize ints l = D1 at *;unfold Z5 cJa;simp [rH,rG,rF,rE,rD,rC,rB,rA,rz,rq,mJ,mI,mH,mG,mF,mE,mD,mC,mB,mz,my,mw,mu,mr,mq,mo,mn,mm,mj,mi,mh,mg,mf,mc,mb,ma,few,hl,aw,lt,lS,lL,h1,h2,h3,h4,aH,aP,aK,sJb,iJb,lJb,sJd,iJd,lJd,sJc,iJc,lJc]
 have h3 : ¬ (12 : Int) < L0.length := by omega
 have h4 : ¬ 12 < L0.length := by omega
 by_cases hp : 40 < IntKind.i64.wrap ((p1.length : Int) + p2.length)
 ·generalize ints st = T1 at *;generalize dy F0 = Y0 at *;generalize ints L0 = Z0 at *;generalize ints p1 = P1 at *;generalize ints p2 = P2 at *;generalize ints l = D1 at *;unfold Z5 cJa;simp [rH,rG,rF,rE,rD,rC,rB,rA,rz,rq,mJ,mI,mH,mG,mF,mE,mD,mC,mB,mz,my,mw,mu,mr,mq,mo,mn,mm,mj,mi,mh,mg,mf,mc,mb,ma,few,hl,aw,lt,lS,lL,lp1,lp2,h1,h2,h3,h4,hp,aH,aP,aK,sJb,iJb,lJb,sJd,iJd,lJd,sJc,iJc,lJc]
 have hl5 : l.length <= 500 := by omega
 have n1 := W6 l n0 F0 L0 p1 p2;obtain ⟨N,Es,L,a1,d1,hB,hN,hEl,_⟩ := TQ l hl5 8 (by omega) 0
 have lL8 : L.length <= 12 := by
  rcases abG 0 N hB.l.1 hB.l.2 with e | e
  ·rw [e]; simp
  ·omega
 obtain ⟨o,a2,d2,lo,_,_⟩ := CP l hl5 8 (by omega) [] ⟨fun _ => rfl,rfl,fun _ _ => rfl,fun _ => rfl,fun _ _ => rfl⟩ a1;have c1 : Qk (N : Int) Es L := Ka (by omega) lL8;have c2 : Qk n0 F0 L0 := Ka (by omega) hL;have c3 : Qk (N : Int) Es o := Ka (by omega) (by omega);obtain ⟨a3,lp⟩ := To n0 F0 L0 p1 p2 SN XS l hl5 N n0 N Es F0 Es L L0 o c1 c2 c3 (by omega) (by omega) (by omega) st hs m 3 0 a2 rfl;rw [show ((8 : Nat) : Int) = 8 from rfl] at d1 d2
 have av0 : tV (dy F0) (dy F0) = true := by
  clear lp c2 n1 lt g2
  induction F0 with
  | nil => rfl
  | cons e r ih => rw [Yp]; simp only [tV,vc,ih,Bool.and_true,Bool.and_self,decide_true]
 have av1 := Bs L0;have av2 := Bs p1;have av3 := Bs p2;unfold bO bB at lp;unfold gS at *;unfold dk at *;simp only [jj] at n1 d1 d2 lp;clear hB hEl c1 c2 c3 lL8;generalize ints st = T1 at *;generalize dy Es = Y1 at *;generalize dy F0 = Y0 at *;generalize ints L0 = Z0 at *;generalize ints L = Z1 at *;generalize ints o = Z2 at *;generalize ints p1 = P1 at *;generalize ints p2 = P2 at *;generalize ints l = D1 at *;unfold Z5 cJa;simp [rH,rG,rF,rE,rD,rC,rB,rA,rz,rq,mJ,mI,mH,mG,mF,mE,mD,mC,mB,mz,my,mw,mu,mr,mq,mo,mn,mm,mj,mi,mh,mg,mf,mc,mb,ma,few,hl,aw,lt,lS,lL,lp1,lp2,h1,h2,h3,h4,hp,n1,d1,d2,lp,av0,av1,av2,av3,aH,aP,aK,js,fx,j5,pl,gj,cz,jP,oq,eC,dT,qS,jE,jm,iQ,kO,Pg,Ti,ptrs,tK,blkE,vc,tV,sJb,iJb,lJb,sJd,iJd,lJd,sJc,iJc,lJc,sJe,iJe,lJe,sJf,iJf,lJf,sJg,iJg,lJg]
end Go.BmP
