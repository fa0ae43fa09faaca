/- What sample.Mono and ByColours return. -/
import Derived.Test.YtmoginoicilobaaGreatDoorUseM
import Derived.Test.YtmoginoicilobaaGreatDoorWdgP
import Derived.Test.YtmoginoicilobaaGreatDoorT06
set_option linter.unusedSimpArgs false
set_option linter.unusedVariables false
set_option maxRecDepth 100000
set_option maxHeartbeats 4000000
open List renaming append_assoc → dI, append_nil → ft, cons_append → oW, drop_eq_getElem_cons → aP, drop_length → cz, drop_zero → b9, getElem?_eq_getElem → af, getElem_mem → cG, nil_append → ei, take_length → cX, take_of_length_le → aL
open Nat renaming le_of_ble_eq_true → ab, lt_of_le_of_lt → dM
open Option.some renaming inj → bU
namespace Go.BmP
open Go.Am Go.Bm
theorem F4 {N : Int} {Es : List Ed} (p : Ed -> Bool) (h : kC N Es) : kC N (Es.filter p) := ⟨h.1,h.2.1.sublist List.filter_sublist,fun e he => h.2.2 e (List.mem_filter.1 he).1⟩
def h4 (N : Nat) (Y CS : List AV) (c : Int) : Heap := [some [.int .i64 N,.list 2 Y],some [.list 1 CS],some [.int .i64 c],some [.int .i64 0,.own 2 []]]
theorem Ix (N : Nat) (Y CS : List AV) (c x : Int) (h : 0 <= x /\ x < c) : bf aj UD [.int .i64 x,.ptr 2 0] (h4 N Y CS c) = some (.bool false,h4 N Y CS c) := by
 have h1 : ¬ x < 0 := by omega
 have h2 : ¬ c <= x := by omega
 rw [aB oQD sQD (ab rfl)];unfold qQD cQD h4;simp [Sj,Si,h1,h2,aJ,eO,cI,cO,bh,eC,fo,bL,bH,eh,aY,aV]
def KS (N : Nat) (Y : List AV) (cs : List Int) (c : Int) (i : Nat) (J : Env) : St := ⟨(0,.list 1 (ints cs)) :: (1,.func (.func UD) [] [.ptr 2 0]) :: (7,.int .i64 cs.length) :: (8,.int .i64 i) :: J,h4 N Y (ints cs) c⟩
theorem Tm (N : Nat) (Y : List AV) (cs : List Int) (hl : cs.length < 4294967295) (c : Int) (h : ∀ x ∈ cs,0 <= x /\ x < c) : ∀ (k i : Nat),i + k = cs.length -> bj aj 4 (.loop FO) (KS N Y cs c i []) = some (.exit 0,KS N Y cs c cs.length [(9,.bool false)])
 | 0,i,hi => by
   obtain rfl : i = cs.length := by omega
   refine bm ?_;unfold KS FO h4;generalize ints cs = C at *;simp [ER,EP,EN,EM,EL,EK,EJ,EI]
 | k + 1,i,hi => by
   have bz : i < cs.length := by omega
   refine (aR ?_).trans (Tm N Y cs hl c h k (i + 1) (by omega));have k1 : (i : Int) < cs.length := by omega
   have hw := dw (i := i) (by omega);have m := Ix N Y (ints cs) c cs[i] (h _ (cG bz));have g3 : (ints cs)[i]? = some (.int .i64 cs[i]) := by rw [aI,af bz]; rfl
   have g4 : ∀ h,(ints cs)[i]'h = .int .i64 cs[i] := fun h => aT ..;have g5 := ae cs;generalize cs[i] = x at *;unfold h4 at m;unfold KS FO h4;generalize ints cs = C at *;simp [ER,EP,EN,EM,EL,EK,EJ,EI,k1,bz,hw,m,g3,g4,g5,idx,sQD,iQD,lQD,eO,cI,cO,bh,eC,fo,bL,bH,aJ]
theorem Hp (N : Nat) (Y : List AV) (cs : List Int) (hl : cs.length < 4294967295) (c : Int) (h : ∀ x ∈ cs,0 <= x /\ x < c) : bf aj nQC [.list 1 (ints cs),.func (.func UD) [] [.ptr 2 0]] (h4 N Y (ints cs) c) = some (.bool false,h4 N Y (ints cs) c) := by
 have ix : bf aj nQU [.list 1 (ints cs),.func (.func UD) [] [.ptr 2 0]] (h4 N Y (ints cs) c) = some (.int .i64 (-1),h4 N Y (ints cs) c) := by
  have lp := Tm N Y cs hl c h cs.length 0 (by omega);rw [aB oQU sQU (ab rfl)];unfold KS h4 at lp;rw [iB] at lp;unfold qQU cQU h4;have g5 := ae cs;generalize ints cs = C at *;simp [ER,EP,EN,EM,EL,EK,EJ,EI,lp,g5,aJ,eO,cI,cO,bh,eC,fo,bL,bH,eh,aY,aV]
 rw [aB oQC sQC (ab rfl)];unfold h4 at ix;unfold qQC cQC h4;generalize ints cs = C at *;simp [XK,XJ,ix,aJ,sQU,iQU,lQU,eO,cI,cO,bh,eC,fo,bL,bH,eh,aY,aV]
def ud (cs : List Int) (v : Int) : Int := cs.getD v.toNat 0
theorem UG (N : Nat) (Y O : List AV) (cs : List Int) (hl : cs.length < 4294967295) (c : Int) (i : Int) (u v : Nat) (hu : u < cs.length) (hv : v < cs.length) :
  bf aj nQF [.int .i64 i,.agg [.int .i64 u,.int .i64 v],.ptr 1 0] (h4 N Y (ints cs) c ++ [some [.int .i64 N,.list 2 Y],some [.int .i64 0,.own 2 []],some [.int .i64 N,.own 2 O],some [.int .i64 u,.int .i64 v]]) = some (.bool (decide (ud cs u = ud cs v)),h4 N Y (ints cs) c ++ [some [.int .i64 N,.list 2 Y],some [.int .i64 0,.own 2 []],some [.int .i64 N,.own 2 O],some [.int .i64 u,.int .i64 v]]) := by
 have k1 : (u : Int) < cs.length := by omega
 have k2 : (v : Int) < cs.length := by omega
 have at_ : ∀ j : Nat,j < cs.length -> (ints cs)[j]? = some (.int .i64 (ud cs j)) := fun j hj => by
  rw [aI,af hj]; unfold ud; simp [List.getD_eq_getElem?_getD,af hj]
 have g1 := at_ u hu;have g2 := at_ v hv
 have gg : ∀ (j : Nat) (x : AV),(ints cs)[j]? = some x -> ∀ h,(ints cs)[j]'h = x := fun j x e h => by
  have := af (l := ints cs) h;rw [e] at this;exact (bU this).symm
 have g1' := gg _ _ g1;have g2' := gg _ _ g2;have g5 := ae cs;clear at_ gg;generalize ud cs u = x at *;generalize ud cs v = y at *;have be : (x == y) = decide (x = y) := by by_cases h : x = y <;> simp [h]
 rw [aB oQF sQF (ab rfl)];unfold qQF cQF h4;generalize ints cs = C at *;simp [acY,acX,be,k1,k2,hu,hv,g1,g2,g1',g2',g5,idx,aJ,eO,cI,cO,bh,eC,fo,bL,bH,eh,aY,aV]
def LO (N : Nat) (Es : List Ed) (cs : List Int) (c : Int) (o : List Ed) (i : Nat) (J : Env) : St := ⟨(1,.func (.func nQF) [] [.ptr 1 0]) :: (4,.ptr 5 0) :: (5,.ptr 6 0) :: (12,.list 2 (bc Es)) :: (13,.int .i64 Es.length) :: (14,.int .i64 i) :: J,h4 N (bc Es) (ints cs) c ++ [some [.int .i64 N,.list 2 (bc Es)],some [.int .i64 0,.own 2 []],some [.int .i64 N,.own 2 (bc o)]]⟩
theorem Wh (N : Nat) (Es : List Ed) (hE : Es.length < 1000000) (cs : List Int) (hc : cs.length = N) (hN : N <= 64) (c : Int) (o : List Ed) (ho : o.length < 1000000) (i : Nat) (hi : i < Es.length) (he : 0 <= Es[i].1 /\ Es[i].1 < Es[i].2 /\ Es[i].2 < (N : Int)) :
  bj aj 4 vq (LO N Es cs c o i []) = some (.normal,LO N Es cs c (if ud cs Es[i].1 = ud cs Es[i].2 then o ++ [Es[i]] else o) (i + 1) []) := by
 obtain ⟨u,hu⟩ : ∃ u : Nat,Es[i].1 = u := ⟨Es[i].1.toNat,by omega⟩;obtain ⟨v,hv⟩ : ∃ v : Nat,Es[i].2 = v := ⟨Es[i].2.toNat,by omega⟩;have k1 : (i : Int) < Es.length := by omega
 have hw := dw (i := i) (by omega);have m := UG N (bc Es) (bc o) cs (by omega) c i u v (by omega) (by omega);have g3 : (bc Es)[i]? = some (.agg [.int .i64 u,.int .i64 v]) := by rw [aO,af hi]; simp [cB,hu,hv]
 have g4 : ∀ h,(bc Es)[i]'h = .agg [.int .i64 u,.int .i64 v] := fun h => by
  have := af (l := bc Es) h;rw [g3] at this;exact (bU this).symm
 have g5 := au Es;have hL : o.length + 1 <= 4294967296 := by omega
 have e0 : Es[i] = ((u : Int),(v : Int)) := Prod.ext hu hv;have sn := pn o (u : Int) (v : Int)
 have tk : (bc (o ++ [((u : Int),(v : Int))])).take (o.length + 1) = bc (o ++ [((u : Int),(v : Int))]) := by
  rw [fI,aL (by simp)]
 have V3 : (bc o).take o.length = bc o := by rw [fI,cX]
 rw [e0];simp only;unfold h4 at m;simp only [oW,ei] at m;by_cases q : ud cs u = ud cs v
 ·rw [if_pos q];rw [decide_eq_true q] at m;unfold LO vq h4;generalize bc (o ++ [((u : Int),(v : Int))]) = Z at *;generalize ints cs = C at *;generalize bc Es = Y at *;simp [zt,zr,zq,zp,zo,zn,zm,zl,zk,k1,hi,hw,m,g3,g4,g5,hL,sn,tk,V3,kR,idx,sQF,iQF,lQF,eO,cI,cO,bh,eC,fo,bL,bH,eH,bV,du,cE,aJ,au,aO,bF,cB,az,aC,aA,ae,aI,aT,aY,aV]
 ·rw [if_neg q];rw [decide_eq_false q] at m;unfold LO vq h4;generalize ints cs = C at *;generalize bc Es = Y at *;simp [zt,zr,zq,zp,zo,zn,zm,zl,zk,k1,hi,hw,m,g3,g4,g5,V3,idx,sQF,iQF,lQF,eO,cI,cO,bh,eC,fo,bL,bH,eH,bV,du,cE,aJ,au,aO,bF,cB,az,aC,aA,ae,aI,aT,aY,aV]
def eY (cs : List Int) (Es : List Ed) : List Ed := Es.filter fun e => decide (ud cs e.1 = ud cs e.2)
theorem QG (N : Nat) (Es : List Ed) (hE : Es.length < 1000000) (cs : List Int) (hc : cs.length = N) (hN : N <= 64) (c : Int) (he : ∀ e ∈ Es,0 <= e.1 /\ e.1 < e.2 /\ e.2 < (N : Int)) : ∀ (k i : Nat) (o : List Ed),i + k = Es.length -> o.length <= i -> bj aj 4 (.loop vq) (LO N Es cs c o i []) = some (.exit 0,LO N Es cs c (o ++ eY cs (Es.drop i)) Es.length [(15,.bool false)])
 | 0,i,o,hi,ho => by
   obtain rfl : i = Es.length := by omega
   have e0 : eY cs (Es.drop Es.length) = [] := by rw [cz]; rfl
   rw [e0,ft];refine bm ?_;unfold LO vq h4;generalize ints cs = C at *;generalize bc Es = Y at *;simp [zt,zr,zq,zp,zo,zn,zm,zl,zk,aJ,au,aO,bF,cB,az,aC,aA,ae,aI,aT,aY,aV]
 | k + 1,i,o,hi,ho => by
   have bz : i < Es.length := by omega
   have r := Wh N Es hE cs hc hN c o (by omega) i bz (he _ (cG bz))
   have e0 : o ++ eY cs (Es.drop i) = (if ud cs Es[i].1 = ud cs Es[i].2 then o ++ [Es[i]] else o) ++ eY cs (Es.drop (i + 1)) := by
    rw [aP bz];unfold eY;rw [List.filter_cons];by_cases q : ud cs Es[i].1 = ud cs Es[i].2
    ·rw [if_pos (by simpa using q),if_pos q,dI]; rfl
    ·rw [if_neg (by simpa using q),if_neg q]
   have ih := QG N Es hE cs hc hN c he k (i + 1) (if ud cs Es[i].1 = ud cs Es[i].2 then o ++ [Es[i]] else o) (by omega) (by split <;> (try simp) <;> omega);rw [e0];exact (aR r).trans ih
theorem Wf (N : Nat) (Es : List Ed) (hE : Es.length < 1000000) (cs : List Int) (hc : cs.length = N) (hN : N <= 64) (c : Int) (he : ∀ e ∈ Es,0 <= e.1 /\ e.1 < e.2 /\ e.2 < (N : Int)) :
  bf aj nQE [.agg [.int .i64 N,.list 2 (bc Es)],.func (.func nQF) [] [.ptr 1 0]] (h4 N (bc Es) (ints cs) c) = some (.agg [.int .i64 N,.list 2 (bc (eY cs Es))],h4 N (bc Es) (ints cs) c) := by
 have lp := QG N Es hE cs hc hN c he Es.length 0 [] (by omega) (by simp);rw [b9,ei] at lp;have g5 := au Es;have tk : (bc (eY cs Es)).take (eY cs Es).length = bc (eY cs Es) := by rw [fI,cX]
 have g6 := au (eY cs Es);unfold LO h4 at lp;simp only [oW,ei] at lp;rw [iB,show bc [] = [] from rfl] at lp;rw [aB oQE sQE (ab rfl)];unfold qQE cQE h4;generalize eY cs Es = M at *;generalize ints cs = C at *;generalize bc Es = Y at *;generalize bc M = YM at *;simp [zt,zr,zq,zp,zo,zn,zm,zl,zk,lp,tk,g5,g6,eO,cI,cO,bh,eC,fo,bL,bH,eH,bV,du,cE,eh,aJ,au,aO,bF,cB,az,aC,aA,ae,aI,aT,aY,aV]
theorem Iw {N : Nat} {Es : List Ed} (hG : kC (N : Int) Es) (hE : Es.length < 1000000) (cs : List Int) (hc : cs.length = N) (c : Int) (c1 : 1 <= c /\ c <= 64) (h : ∀ x ∈ cs,0 <= x /\ x < c) :
  bf aj VH [.agg [.int .i64 N,.list 2 (bc Es)],.list 1 (ints cs),.int .i64 c] [] = some (.dp [.agg [.int .i64 N,.list 2 (bc (eY cs Es))],.int .i64 0],[]) := by
 have hN := hG.1;have g := fH N Es (by omega);rw [dW.2 hG] at g;have sr := Wf N Es hE cs hc (by omega) c hG.2.2;have ct := Hp N (bc Es) cs (by omega) c h;have n1 : ¬ c < 1 := by omega
 have n2 : ¬ 64 < c := by omega
 have g5 : (ints cs).length = N := by rw [ae,hc]
 unfold h4 at sr ct;rw [aB oQk Ws (ab rfl)];unfold qQk cQk;generalize eY cs Es = M at *;generalize ints cs = C at *;generalize bc Es = Y at *;generalize bc M = YM at *;simp [En,Em,El,Ek,Ej,Ei,Eh,Eg,Ef,g,sr,ct,n1,n2,g5,aJ,G9,IM,IJ,sQE,iQE,lQE,sQC,iQC,lQC,eO,cI,cO,bh,eC,fo,bL,bH,eH,bV,du,cE,dy,jb,kM,sO,iH,qZ,oN,kH,aY,aV]
theorem Hv {N : Nat} {Es : List Ed} (hG : kC (N : Int) Es) (hE : Es.length < 1000000) (cs : List Int) (hc : cs.length = N) (c : Int) (c1 : 1 <= c /\ c <= 64) (h : ∀ x ∈ cs,0 <= x /\ x < c) :
  bf aj VG [.agg [.int .i64 N,.list 2 (bc Es)],.list 1 (ints cs),.int .i64 c] [] = some (.dp [.int .i64 (IntKind.i64.wrap (c * c * (N5 N (eY cs Es)))),.int .i64 0],[]) := by
 have hM := F4 (fun e => decide (ud cs e.1 = ud cs e.2)) hG;have ml : (eY cs Es).length < 1000000 := dM (List.length_filter_le _ _) hE;have mr := Iw hG hE cs hc c c1 h;have cr := Jf (Es := eY cs Es) hM ml;rw [JF (Es := eY cs Es) hM] at cr
 have wc : IntKind.i64.wrap (c * c) = c * c := by
  have h1 : c * c <= 64 * 64 := Int.mul_le_mul c1.2 c1.2 (by omega) (by omega);have h2 : 0 <= c * c := Int.mul_nonneg (by omega) (by omega);exact cS (by omega) (by omega)
 rw [aB oQm sQm (ab rfl)];unfold qQm cQm;unfold eY at *;generalize Es.filter (fun e => decide (ud cs e.1 = ud cs e.2)) = M at *;generalize (N5 N M : Int) = t at *;generalize ints cs = C at *;generalize bc Es = Y at *;generalize bc M = YM at *;simp [RB,RA,Rx,Rw,Rs,Rr,mr,cr,wc,aJ,Ws,iQk,lQk,sQH,iQH,lQH,df,pl,aY,aV]
/- What sample.Keep and ByEdges return. -/
def fK (l : List Bool) : List AV := l.map AV.bool
theorem iU (l : List Bool) : (fK l).length = l.length := List.length_map _
theorem TL (l : List Bool) (i : Nat) : (fK l)[i]? = (l[i]?).map AV.bool := List.getElem?_map
def fv : List Bool -> List Ed -> List Ed
 | true :: bs,e :: r => e :: fv bs r
 | false :: bs,_ :: r => fv bs r
 | _,_ => []
theorem Be (bs : List Bool) : fv bs [] = [] := by cases bs with
 | nil => rfl
 | cons b r => cases b <;> rfl
theorem FR (b : Bool) (bs : List Bool) (e : Ed) (r : List Ed) : fv (b :: bs) (e :: r) = (if b = true then [e] else []) ++ fv bs r := by cases b <;> rfl
theorem nt : ∀ (bs : List Bool) (l : List Ed),(fv bs l).Sublist l
 | [],l => by cases l <;> exact List.nil_sublist _
 | b :: bs,[] => by rw [Be]; exact List.Sublist.refl _
 | true :: bs,e :: r => (nt bs r).cons_cons e
 | false :: bs,e :: r => (nt bs r).cons e
theorem Tx {N : Int} {Es F : List Ed} (h : kC N Es) (s : F.Sublist Es) : kC N F := ⟨h.1,h.2.1.sublist s,fun e he => h.2.2 e (s.mem he)⟩
def h3 (N : Nat) (Y BS : List AV) : Heap := [some [.int .i64 N,.list 2 Y],some [.list 1 BS],some [.int .i64 0,.own 2 []]]
theorem UO (N : Nat) (Y O : List AV) (bs : List Bool) (i : Nat) (hi : i < bs.length) (hb : bs.length < 1000000) (u v : Int) :
  bf aj nQJ [.int .i64 i,.agg [.int .i64 u,.int .i64 v],.ptr 1 0] (h3 N Y (fK bs) ++ [some [.int .i64 N,.list 2 Y],some [.int .i64 0,.own 2 []],some [.int .i64 N,.own 2 O],some [.int .i64 u,.int .i64 v]]) = some (.bool bs[i],h3 N Y (fK bs) ++ [some [.int .i64 N,.list 2 Y],some [.int .i64 0,.own 2 []],some [.int .i64 N,.own 2 O],some [.int .i64 u,.int .i64 v]]) := by
 have k1 : (i : Int) < bs.length := by omega
 have g1 : (fK bs)[i]? = some (.bool bs[i]) := by rw [TL,af hi]; rfl
 have g1' : ∀ h,(fK bs)[i]'h = .bool bs[i] := fun h => by
  have := af (l := fK bs) h;rw [g1] at this;exact (bU this).symm
 have g5 := iU bs;generalize bs[i] = b at *;rw [aB oQJ sQJ (ab rfl)];unfold qQJ cQJ h3;generalize fK bs = C at *;simp [acQ,acP,k1,hi,g1,g1',g5,idx,aJ,eO,cI,cO,bh,eC,fo,bL,bH,eh,aY,aV]
def LS (N : Nat) (Es : List Ed) (bs : List Bool) (o : List Ed) (i : Nat) (J : Env) : St := ⟨(1,.func (.func nQJ) [] [.ptr 1 0]) :: (4,.ptr 4 0) :: (5,.ptr 5 0) :: (12,.list 2 (bc Es)) :: (13,.int .i64 Es.length) :: (14,.int .i64 i) :: J,h3 N (bc Es) (fK bs) ++ [some [.int .i64 N,.list 2 (bc Es)],some [.int .i64 0,.own 2 []],some [.int .i64 N,.own 2 (bc o)]]⟩
theorem Wi (N : Nat) (Es : List Ed) (hE : Es.length < 1000000) (bs : List Bool) (hb : bs.length = Es.length) (o : List Ed) (ho : o.length < 1000000) (i : Nat) (hi : i < Es.length) :
  bj aj 3 vq (LS N Es bs o i []) = some (.normal,LS N Es bs (o ++ (if bs[i]'(by omega) = true then [Es[i]] else [])) (i + 1) []) := by
 have hib : i < bs.length := by omega
 have k1 : (i : Int) < Es.length := by omega
 have hw := dw (i := i) (by omega);have m := UO N (bc Es) (bc o) bs i (by omega) (by omega) Es[i].1 Es[i].2;have g3 : (bc Es)[i]? = some (.agg [.int .i64 Es[i].1,.int .i64 Es[i].2]) := by rw [aO,af hi]; simp [cB]
 have g4 : ∀ h,(bc Es)[i]'h = .agg [.int .i64 Es[i].1,.int .i64 Es[i].2] := fun h => by
  have := af (l := bc Es) h;rw [g3] at this;exact (bU this).symm
 have g5 := au Es;have hL : o.length + 1 <= 4294967296 := by omega
 have sn := pn o Es[i].1 Es[i].2
 have tk : (bc (o ++ [(Es[i].1,Es[i].2)])).take (o.length + 1) = bc (o ++ [(Es[i].1,Es[i].2)]) := by
  rw [fI,aL (by simp)]
 have V3 : (bc o).take o.length = bc o := by rw [fI,cX]
 have e0 : (Es[i].1,Es[i].2) = Es[i] := rfl;rw [e0] at sn tk;unfold h3 at m;simp only [oW,ei] at m;generalize bs[i]'hib = b at *;cases b with
 | true =>
   rw [if_pos rfl];unfold LS vq h3;generalize bc (o ++ [Es[i]]) = Z at *;generalize Es[i].1 = u at *;generalize Es[i].2 = v at *;generalize fK bs = C at *;generalize bc Es = Y at *;simp [zt,zr,zq,zp,zo,zn,zm,zl,zk,k1,hi,hw,m,g3,g4,g5,hL,sn,tk,V3,kR,idx,sQJ,iQJ,lQJ,eO,cI,cO,bh,eC,fo,bL,bH,eH,bV,du,cE,aJ,au,aO,bF,cB,az,aC,aA,ae,aI,aT,aY,aV]
 | false =>
   rw [if_neg (by simp),ft];unfold LS vq h3;generalize Es[i].1 = u at *;generalize Es[i].2 = v at *;generalize fK bs = C at *;generalize bc Es = Y at *;simp [zt,zr,zq,zp,zo,zn,zm,zl,zk,k1,hi,hw,m,g3,g4,g5,V3,idx,sQJ,iQJ,lQJ,eO,cI,cO,bh,eC,fo,bL,bH,eH,bV,du,cE,aJ,au,aO,bF,cB,az,aC,aA,ae,aI,aT,aY,aV]
theorem QH (N : Nat) (Es : List Ed) (hE : Es.length < 1000000) (bs : List Bool) (hb : bs.length = Es.length) : ∀ (k i : Nat) (o : List Ed),i + k = Es.length -> o.length <= i -> bj aj 3 (.loop vq) (LS N Es bs o i []) = some (.exit 0,LS N Es bs (o ++ fv (bs.drop i) (Es.drop i)) Es.length [(15,.bool false)])
 | 0,i,o,hi,ho => by
   obtain rfl : i = Es.length := by omega
   rw [cz,Be,ft];refine bm ?_;unfold LS vq h3;generalize fK bs = C at *;generalize bc Es = Y at *;simp [zt,zr,zq,zp,zo,zn,zm,zl,zk,aJ,au,aO,bF,cB,az,aC,aA,ae,aI,aT,aY,aV]
 | k + 1,i,o,hi,ho => by
   have bz : i < Es.length := by omega
   have r := Wi N Es hE bs hb o (by omega) i bz;rw [aP bz,aP (by omega : i < bs.length),FR,<- dI];have ih := QH N Es hE bs hb k (i + 1) (o ++ (if bs[i]'(by omega) = true then [Es[i]] else [])) (by omega) (by split <;> (try simp) <;> omega);exact (aR r).trans ih
theorem Ue (N : Nat) (Es : List Ed) (hE : Es.length < 1000000) (bs : List Bool) (hb : bs.length = Es.length) :
  bf aj nQE [.agg [.int .i64 N,.list 2 (bc Es)],.func (.func nQJ) [] [.ptr 1 0]] (h3 N (bc Es) (fK bs)) = some (.agg [.int .i64 N,.list 2 (bc (fv bs Es))],h3 N (bc Es) (fK bs)) := by
 have lp := QH N Es hE bs hb Es.length 0 [] (by omega) (by simp);rw [b9,b9,ei] at lp;have g5 := au Es;have tk : (bc (fv bs Es)).take (fv bs Es).length = bc (fv bs Es) := by rw [fI,cX]
 have g6 := au (fv bs Es);unfold LS h3 at lp;simp only [oW,ei] at lp;rw [iB,show bc [] = [] from rfl] at lp;rw [aB oQE sQE (ab rfl)];unfold qQE cQE h3;generalize fv bs Es = M at *;generalize fK bs = C at *;generalize bc Es = Y at *;generalize bc M = YM at *;simp [zt,zr,zq,zp,zo,zn,zm,zl,zk,lp,tk,g5,g6,eO,cI,cO,bh,eC,fo,bL,bH,eH,bV,du,cE,eh,aJ,au,aO,bF,cB,az,aC,aA,ae,aI,aT,aY,aV]
theorem Na {N : Nat} {Es : List Ed} (hG : kC (N : Int) Es) (hE : Es.length < 1000000) (bs : List Bool) (hb : bs.length = Es.length) :
  bf aj Yg [.agg [.int .i64 N,.list 2 (bc Es)],.list 1 (fK bs)] [] = some (.dp [.agg [.int .i64 N,.list 2 (bc (fv bs Es))],.int .i64 0],[]) := by
 have g := fH N Es (by omega);rw [dW.2 hG] at g;have sr := Ue N Es hE bs hb;have g5 : (fK bs).length = Es.length := by rw [iU,hb]
 have g6 := au Es;unfold h3 at sr;rw [aB oQo sQo (ab rfl)];unfold qQo cQo;generalize fv bs Es = M at *;generalize fK bs = C at *;generalize bc Es = Y at *;generalize bc M = YM at *;simp [Rk,Rj,Ri,Rh,Rg,Rf,Re,g,sr,g5,g6,aJ,G9,IM,IJ,sQE,iQE,lQE,eO,cI,cO,bh,eC,fo,bL,bH,eH,bV,du,cE,dy,jb,kM,sO,iH,qZ,oN,kH,aY,aV]
theorem NQ {N : Nat} {Es : List Ed} (hG : kC (N : Int) Es) (hE : Es.length < 1000000) (bs : List Bool) (hb : bs.length = Es.length) :
  bf aj nQq [.agg [.int .i64 N,.list 2 (bc Es)],.list 1 (fK bs)] [] = some (.dp [.int .i64 (IntKind.i64.wrap (8 * (N5 N (fv bs Es)))),.int .i64 0],[]) := by
 have hM := Tx hG (nt bs Es);have ml : (fv bs Es).length < 1000000 := dM (nt bs Es).length_le hE;have mr := Na hG hE bs hb;have cr := Jf hM ml;rw [JF hM] at cr;rw [aB oQq sQq (ab rfl)];unfold qQq cQq;generalize fv bs Es = M at *;generalize (N5 N M : Int) = t at *;generalize fK bs = C at *;generalize bc Es = Y at *;generalize bc M = YM at *;simp [Rc,Rb,Ra,Q9,Q8,Q7,mr,cr,aJ,sQo,iQo,lQo,sQH,iQH,lQH,df,pl,aY,aV]
end Go.BmP
