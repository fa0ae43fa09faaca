/- The law's rounds: one graph. -/
import Derived.Test.YtmoginoicilobaaGreatDoorUseM
import Derived.Test.YtmoginoicilobaaGreatDoorSaI
import Derived.Test.YtmoginoicilobaaGreatDoorSaR
import Derived.Test.YtmoginoicilobaaGreatDoorQ05
import Derived.Test.YtmoginoicilobaaGreatDoorR02d
import Derived.Test.YtmoginoicilobaaGreatDoorL01
import Derived.KernelRfl
set_option linter.unusedSimpArgs false
set_option linter.unusedVariables false
set_option maxRecDepth 100000
set_option maxHeartbeats 8000000
open Int renaming tdiv_eq_ediv_of_nonneg → JC
open List renaming eq_nil_of_length_eq_zero → di, getElem?_eq_getElem → af, getElem_mem → cG, length_map → iM, length_set → dc, mem_or_eq_of_mem_set → bP, range → wW, take_length → cX, take_of_length_le → aL
open Nat renaming le_of_ble_eq_true → ab
open Option.some renaming inj → bU
namespace Go.BmP
open Go.Am Go.Bm
def GZ (n : Int) (F : List Ed) : TQ := some [.int .i64 n,.list 2 (bc F)]
def DR (n0 : Int) (F0 : List Ed) (l : List Int) (a : Nat) (n : Int) (F : List Ed) : Heap := [GZ n0 F0,dk l a,GZ n F]
def saI (st : List Int) (bs : List Bool) (c m : Int) (k : Nat) (GS : List AV) (gi : Int) (i : Int) (J : Env) : Env := (1,.list 1 (ints st)) :: (3,.list 1 (fK bs)) :: (4,.int .i64 c) :: (5,.int .i64 m) :: (13,.ptr 1 0) :: (16,.ptr 2 0) :: (17,.int .i64 k) :: (18,.int .i64 i) :: (92,.own 2 GS) :: (93,.int .i64 3) :: (94,.int .i64 gi) :: J
theorem af7 (n0 : Int) (F0 : List Ed) (l : List Int) (a : Nat) (n : Int) (F : List Ed) (hC : SAg n F) (st : List Int) (sa : st.length <= 60) (bs : List Bool) (c m : Int) (k : Nat) (GS : List AV) (gi : Int) :
  bj aj 0 FN ⟨saI st bs c m k GS gi 0 [],DR n0 F0 l a n F⟩ = some (.normal,⟨saI st bs c m k GS gi 1 [],DR n0 F0 l a n F⟩) := by
 obtain ⟨m1,H1,e1,lH1,s1,r1⟩ := hC.mono st c (by omega);obtain ⟨x2,e2,s2,r2⟩ := hC.byc st c (by omega);obtain ⟨m3,H3,e3,lH3,s3,r3⟩ := hC.kee bs;obtain ⟨x4,e4,s4,r4⟩ := hC.bye bs;have q1 := wh m1 H1 lH1;have q3 := wh m3 H3 lH3;unfold xh at *;unfold saI DR GZ dk;generalize ints st = T1 at *;generalize fK bs = B1 at *;generalize ints l = D1 at *;generalize bc H1 = Y1 at *;generalize bc H3 = Y3 at *;generalize bc F = Y at *;generalize bc F0 = Y0 at *;clear hC;unfold FN;simp [kz,kt,ks,kr,kq,ko,kn,km,kl,kj,iz,iy,iw,iv,iu,iq,im,ik,ij,ig,ia,hZ,hO,hJ,gY,gX,gW,gV,gU,gS,gQ,gO,gN,gM,gL,gK,gJ,gI,gH,gG,gF,gD,gC,gz,gw,gr,gq,gk,gh,ga,fZ,fY,fX,fW,fV,fU,fT,fS,fR,fQ,fP,fO,fN,fM,s1,r1,s2,r2,s3,r3,s4,r4,q1,q3,idx,aJ,df,pl,eO,cI,cO,bh,eC,bL,bH,Ws,iQk,lQk,sQl,iQl,lQl,sQm,iQm,lQm,sQn,iQn,lQn,sQo,iQo,lQo,sQp,iQp,lQp,sQq,iQq,lQq,sQr,iQr,lQr,sQs,iQs,lQs]
theorem af6 (n0 : Int) (F0 : List Ed) (l : List Int) (hl : l.length <= 500) (a : Nat) (n : Int) (F : List Ed) (hF : F.length <= 1000) (hC : SAg n F) (st : List Int) (bs : List Bool) (c m : Int) (k : Nat) (hk : k <= 70) (GS : List AV) (gi : Int) :
  ∃ a',bj aj 0 FN ⟨saI st bs c m k GS gi 1 [],DR n0 F0 l a n F⟩ = some (.normal,⟨saI st bs c m k GS gi 2 [],DR n0 F0 l a' n F⟩) := by
 have n1 := eI l (by omega) a 3 (by omega) [] yS;obtain ⟨b0,b1⟩ := oH l a (n := 3) (by omega);generalize tW l a 3 = a1 at *;generalize tV l a 3 = x1 at *;have n2 := eI l (by omega) a1 9 (by omega) [] yS;obtain ⟨b2,b3⟩ := oH l a1 (n := 9) (by omega);generalize tW l a1 9 = a2 at *;generalize tV l a1 9 = x2 at *;obtain ⟨d,hd⟩ : ∃ d : Int,x2.tdiv 8 = d := ⟨_,rfl⟩
 have CH : 0 <= d /\ d <= 1 := by
  rw [<- hd,JC b2];omega
 have hd3 : x2 / 8 = d := by rw [<- hd,JC b2]
 have w1 : IntKind.i64.wrap (1 + x1) = 1 + x1 := cS (by omega) (by omega);have w2 : IntKind.i64.wrap (1 + x1 + d) = 1 + x1 + d := cS (by omega) (by omega);have w3 : IntKind.i64.wrap d = d := cS (by omega) (by omega);have w4 : IntKind.i64.wrap 2 = 2 := rfl;obtain ⟨cs,a3,nu,lc⟩ := Nx l hl k (by omega) (1 + x1 + d) (by omega) a2;obtain ⟨bb,a4,fb,lb⟩ := Zv l hl F.length (by omega) a3;obtain ⟨m1,H1,e1,lH1,s1,r1⟩ := hC.mono cs (1 + x1) (by omega);obtain ⟨y2,e2,s2,r2⟩ := hC.byc cs (1 + x1) (by omega);obtain ⟨m3,H3,e3,lH3,s3,r3⟩ := hC.kee bb;obtain ⟨y4,e4,s4,r4⟩ := hC.bye bb;have q1 := wh m1 H1 lH1;have q3 := wh m3 H3 lH3;have lF := au F;have pC := u7 cs;have pB := Ku bb;refine ⟨a4,?_⟩;unfold xh at *;unfold saI DR GZ;unfold dk at *;generalize ints st = T1 at *;generalize fK bs = B1 at *;generalize ints cs = T2 at *;generalize fK bb = B2 at *;generalize ints l = D1 at *;generalize bc H1 = Y1 at *;generalize bc H3 = Y3 at *;generalize bc F = Y at *;generalize bc F0 = Y0 at *;clear hC;unfold FN;simp [kz,kt,ks,kr,kq,ko,kn,km,kl,kj,iz,iy,iw,iv,iu,iq,im,ik,ij,ig,ia,hZ,hO,hJ,gY,gX,gW,gV,gU,gS,gQ,gO,gN,gM,gL,gK,gJ,gI,gH,gG,gF,gD,gC,gz,gw,gr,gq,gk,gh,ga,fZ,fY,fX,fW,fV,fU,fT,fS,fR,fQ,fP,fO,fN,fM,n1,n2,hd,hd3,w1,w2,w3,w4,nu,fb,lF,pC,pB,s1,r1,s2,r2,s3,r3,s4,r4,q1,q3,idx,aJ,df,pl,eO,cI,cO,bh,eC,bL,bH,DS,G2,G1,sQi,iQi,lQi,sQj,iQj,lQj,Ws,iQk,lQk,sQl,iQl,lQl,sQm,iQm,lQm,sQn,iQn,lQn,sQo,iQo,lQo,sQp,iQp,lQp,sQq,iQq,lQq,sQr,iQr,lQr,sQs,iQs,lQs]
theorem af5 (n0 : Int) (F0 : List Ed) (l : List Int) (hl : l.length <= 500) (a : Nat) (n : Int) (F : List Ed) (hF : F.length <= 1000) (hC : SAg n F) (st : List Int) (sa : st.length <= 60) (bs : List Bool) (c m : Int) (k : Nat) (hk : k <= 70) (GS : List AV) (gi : Int) :
  ∃ a',bj aj 0 (.loop FN) ⟨saI st bs c m k GS gi 0 [],DR n0 F0 l a n F⟩ = some (.exit 2,⟨(1,.list 1 (ints st)) :: (3,.list 1 (fK bs)) :: (4,.int .i64 c) :: (5,.int .i64 m) :: (13,.ptr 1 0) :: (16,.ptr 2 0) :: (17,.int .i64 k) :: (18,.int .i64 2) :: (92,.own 2 GS) :: (93,.int .i64 3) :: (94,.int .i64 gi) :: [(103,.bool false)],DR n0 F0 l a' n F⟩) := by
 obtain ⟨a',e⟩ := af6 n0 F0 l hl a n F hF hC st bs c m k hk GS gi;refine ⟨a',(aR (af7 n0 F0 l a n F hC st sa bs c m k GS gi)).trans ((aR e).trans (bm ?_))⟩;unfold saI DR GZ dk;generalize ints st = T1 at *;generalize fK bs = B1 at *;generalize ints l = D1 at *;generalize bc F = Y at *;generalize bc F0 = Y0 at *;unfold FN;simp [kz,kt,ks,kr,kq,ko,kn,km,kl,kj,iz,iy,iw,iv,iu,iq,im,ik,ij,ig,ia,hZ,hO,hJ,gY,gX,gW,gV,gU,gS,gQ,gO,gN,gM,gL,gK,gJ,gI,gH,gG,gF,gD,gC,gz,gw,gr,gq,gk,gh,ga,fZ,fY,fX,fW,fV,fU,fT,fS,fR,fQ,fP,fO,fN,fM,aJ]
def Uk (st : List Int) (bs : List Bool) (c m : Int) (GS : List AV) (gi : Int) (J : Env) : Env := (1,.list 1 (ints st)) :: (3,.list 1 (fK bs)) :: (4,.int .i64 c) :: (5,.int .i64 m) :: (13,.ptr 1 0) :: (16,.ptr 2 0) :: (92,.own 2 GS) :: (93,.int .i64 3) :: (94,.int .i64 gi) :: J
theorem sa_p (n0 : Int) (F0 : List Ed) (l : List Int) (a : Nat) (n : Int) (F : List Ed) (hC : SAg n F) (st : List Int) (bs : List Bool) (c m : Int) (GS : List AV) (gi : Int) (PS : List AV) (lP : PS.length = 2) (j : Nat) (hj : j < 2) (S : List Int) (hS : S.length < 1000000) (g : PS[j]? = some (.list 1 (ints S))) :
  bj aj 0 M1 ⟨Uk st bs c m GS gi [(223,.own 1 PS),(224,.int .i64 2),(225,.int .i64 j)],DR n0 F0 l a n F⟩ = some (.normal,⟨Uk st bs c m GS gi [(223,.own 1 PS),(224,.int .i64 2),(225,.int .i64 ((j + 1 : Nat) : Int))],DR n0 F0 l a n F⟩) := by
 have j2 : (j : Int) < 2 := by omega
 have hw := dw (i := j) (by omega);have g' : ∀ h : j < PS.length,PS[j] = .list 1 (ints S) := fun h => by rw [af h] at g; exact bU g
 have jP : j < PS.length := by omega
 obtain ⟨x,y,e,s1,r1⟩ := hC.byw S hS;unfold xh at *;unfold Uk DR GZ dk;generalize ints S = S1 at *;generalize ints st = T1 at *;generalize fK bs = B1 at *;generalize ints l = D1 at *;generalize bc F = Y at *;generalize bc F0 = Y0 at *;clear hC;unfold M1;simp [kz,kt,ks,kr,kq,ko,kn,km,kl,kj,iz,iy,iw,iv,iu,iq,im,ik,ij,ig,ia,hZ,hO,hJ,gY,gX,gW,gV,gU,gS,gQ,gO,gN,gM,gL,gK,gJ,gI,gH,gG,gF,gD,gC,gz,gw,gr,gq,gk,gh,ga,fZ,fY,fX,fW,fV,fU,fT,fS,fR,fQ,fP,fO,fN,fM,j2,hj,hw,jP,lP,g,g',s1,r1,idx,aJ,df,pl,eO,cI,cO,bh,eC,bL,bH,sQt,iQt,lQt,sQu,iQu,lQu]
theorem af4 (n0 : Int) (F0 : List Ed) (l : List Int) (a : Nat) (n : Int) (F : List Ed) (hC : SAg n F) (st : List Int) (sa : st.length <= 60) (bs : List Bool) (c m : Int) (GS : List AV) (gi : Int) (pk : List Int) (hpk : pk.length <= 60) :
  bj aj 0 (.loop M1) ⟨Uk st bs c m GS gi [(223,.own 1 [.list 1 (ints st),.list 1 (ints pk)]),(224,.int .i64 2),(225,.int .i64 0)],DR n0 F0 l a n F⟩ = some (.exit 4,⟨Uk st bs c m GS gi [(223,.own 1 [.list 1 (ints st),.list 1 (ints pk)]),(224,.int .i64 2),(225,.int .i64 2),(226,.bool false)],DR n0 F0 l a n F⟩) := by
 refine (aR (sa_p n0 F0 l a n F hC st bs c m GS gi _ rfl 0 (by omega) st (by omega) rfl)).trans ((aR (sa_p n0 F0 l a n F hC st bs c m GS gi _ rfl 1 (by omega) pk (by omega) rfl)).trans (bm ?_));unfold Uk DR GZ dk;generalize ints st = T1 at *;generalize ints pk = T2 at *;generalize fK bs = B1 at *;generalize ints l = D1 at *;generalize bc F = Y at *;generalize bc F0 = Y0 at *;unfold M1;simp [kz,kt,ks,kr,kq,ko,kn,km,kl,kj,iz,iy,iw,iv,iu,iq,im,ik,ij,ig,ia,hZ,hO,hJ,gY,gX,gW,gV,gU,gS,gQ,gO,gN,gM,gL,gK,gJ,gI,gH,gG,gF,gD,gC,gz,gw,gr,gq,gk,gh,ga,fZ,fY,fX,fW,fV,fU,fT,fS,fR,fQ,fP,fO,fN,fM,aJ]
theorem Ad (L : List Int) (h : L.length <= 100000) : bf aj nQx [.list 1 (ints L),.list 1 (ints L)] [] = some (.int .i64 0,[]) := by
 have := abG L L (by omega) (by omega)
 rwa [Jk.2 rfl] at this
theorem sa_w (n0 : Int) (F0 : List Ed) (l : List Int) (a : Nat) (n : Int) (F : List Ed) (hC : SAg n F) (st : List Int) (bs : List Bool) (c m : Int) (GS : List AV) (gi : Int) (PS : List AV) (lP : PS.length = 2) (j : Nat) (hj : j < 2) (x : Int) (g : PS[j]? = some (.int .i64 x)) :
  bj aj 0 M0 ⟨Uk st bs c m GS gi [(253,.own 1 PS),(254,.int .i64 2),(255,.int .i64 j)],DR n0 F0 l a n F⟩ = some (.normal,⟨Uk st bs c m GS gi [(253,.own 1 PS),(254,.int .i64 2),(255,.int .i64 ((j + 1 : Nat) : Int))],DR n0 F0 l a n F⟩) := by
 have j2 : (j : Int) < 2 := by omega
 have hw := dw (i := j) (by omega);have g' : ∀ h : j < PS.length,PS[j] = .int .i64 x := fun h => by rw [af h] at g; exact bU g
 have jP : j < PS.length := by omega
 obtain ⟨w,b,e,lw,s1,r1⟩ := hC.wed x;have cm := Ad w (by omega);unfold xh at *;unfold Uk DR GZ dk;generalize ints w = W1 at *;generalize ints st = T1 at *;generalize fK bs = B1 at *;generalize ints l = D1 at *;generalize bc F = Y at *;generalize bc F0 = Y0 at *;clear hC;unfold M0;simp [kz,kt,ks,kr,kq,ko,kn,km,kl,kj,iz,iy,iw,iv,iu,iq,im,ik,ij,ig,ia,hZ,hO,hJ,gY,gX,gW,gV,gU,gS,gQ,gO,gN,gM,gL,gK,gJ,gI,gH,gG,gF,gD,gC,gz,gw,gr,gq,gk,gh,ga,fZ,fY,fX,fW,fV,fU,fT,fS,fR,fQ,fP,fO,fN,fM,j2,hj,hw,jP,lP,g,g',s1,r1,cm,idx,aJ,df,pl,eO,cI,cO,bh,eC,bL,bH,sQv,iQv,lQv,sQw,iQw,lQw,sQx,iQx,lQx]
theorem af1 (n0 : Int) (F0 : List Ed) (l : List Int) (a : Nat) (n : Int) (F : List Ed) (hC : SAg n F) (st : List Int) (bs : List Bool) (c m : Int) (GS : List AV) (gi : Int) (x y : Int) :
  bj aj 0 (.loop M0) ⟨Uk st bs c m GS gi [(253,.own 1 [.int .i64 x,.int .i64 y]),(254,.int .i64 2),(255,.int .i64 0)],DR n0 F0 l a n F⟩ = some (.exit 6,⟨Uk st bs c m GS gi [(253,.own 1 [.int .i64 x,.int .i64 y]),(254,.int .i64 2),(255,.int .i64 2),(256,.bool false)],DR n0 F0 l a n F⟩) := by
 refine (aR (sa_w n0 F0 l a n F hC st bs c m GS gi _ rfl 0 (by omega) x rfl)).trans ((aR (sa_w n0 F0 l a n F hC st bs c m GS gi _ rfl 1 (by omega) y rfl)).trans (bm ?_));unfold Uk DR GZ dk;generalize ints st = T1 at *;generalize fK bs = B1 at *;generalize ints l = D1 at *;generalize bc F = Y at *;generalize bc F0 = Y0 at *;unfold M0;simp [kz,kt,ks,kr,kq,ko,kn,km,kl,kj,iz,iy,iw,iv,iu,iq,im,ik,ij,ig,ia,hZ,hO,hJ,gY,gX,gW,gV,gU,gS,gQ,gO,gN,gM,gL,gK,gJ,gI,gH,gG,gF,gD,gC,gz,gw,gr,gq,gk,gh,ga,fZ,fY,fX,fW,fV,fU,fT,fS,fR,fQ,fP,fO,fN,fM,aJ]
def saO (st : List Int) (bs : List Bool) (c m : Int) (GS : List AV) (gi : Int) (J : Env) : Env := (1,.list 1 (ints st)) :: (3,.list 1 (fK bs)) :: (4,.int .i64 c) :: (5,.int .i64 m) :: (13,.ptr 1 0) :: (92,.own 2 GS) :: (93,.int .i64 3) :: (94,.int .i64 gi) :: J
theorem Wr (n0 : Int) (F0 : List Ed) (l : List Int) (hl : l.length <= 500) (a : Nat) (n : Int) (F : List Ed) (hF : F.length <= 1000) (hC : SAg n F) (st : List Int) (sa : st.length <= 60) (bs : List Bool) (c m : Int) (GS : List AV) (lG : GS.length = 3) (gi : Nat) (hi : gi < 3) (g : GS[gi]? = some (xh n F)) :
  ∃ a',bj aj 0 MZ ⟨saO st bs c m GS gi [],[GZ n0 F0,dk l a]⟩ = some (.normal,⟨saO st bs c m GS ((gi + 1 : Nat) : Int) [],[GZ n0 F0,dk l a']⟩) := by
 have i3 : (gi : Int) < 3 := by omega
 have hw := dw (i := gi) (by omega);have g' : ∀ h : gi < GS.length,GS[gi] = xh n F := fun h => by rw [af h] at g; exact bU g
 have iG : gi < GS.length := by omega
 obtain ⟨k,hk,ek⟩ : ∃ k : Nat,k <= 70 /\ (if (0 : Int) < (if 70 < n then 70 else n) then (if 70 < n then 70 else n) else 0) = (k : Int) := by
  refine ⟨(if (0 : Int) < (if 70 < n then 70 else n) then (if 70 < n then 70 else n) else 0).toNat,?_,?_⟩
  ·(repeat' split) <;> omega
  ·(repeat' split) <;> omega
 obtain ⟨a1,l1⟩ := af5 n0 F0 l hl a n F hF hC st sa bs c m k hk GS gi;obtain ⟨pk,a2,nu,lp⟩ := Nx l hl 4 (by omega) 9 (by omega) a1;rw [show ((4 : Nat) : Int) = 4 from rfl] at nu;have l2 := af4 n0 F0 l a2 n F hC st sa bs c m GS gi pk (by omega);have n1 := eI l (by omega) a2 30 (by omega) [] yS;generalize tW l a2 30 = a3 at *;generalize tV l a2 30 = d at *;have l3 := af1 n0 F0 l a3 n F hC st bs c m GS gi m d;have pT := u7 st;have pK := u7 pk;refine ⟨a3,?_⟩;unfold xh at *;unfold saI DR at l1;unfold Uk DR at l2 l3;unfold saO;unfold GZ dk at *;generalize ints st = T1 at *;generalize ints pk = T2 at *;generalize fK bs = B1 at *;generalize ints l = D1 at *;generalize bc F = Y at *;generalize bc F0 = Y0 at *;clear hC;unfold MZ;simp [kz,kt,ks,kr,kq,ko,kn,km,kl,kj,iz,iy,iw,iv,iu,iq,im,ik,ij,ig,ia,hZ,hO,hJ,gY,gX,gW,gV,gU,gS,gQ,gO,gN,gM,gL,gK,gJ,gI,gH,gG,gF,gD,gC,gz,gw,gr,gq,gk,gh,ga,fZ,fY,fX,fW,fV,fU,fT,fS,fR,fQ,fP,fO,fN,fM,i3,hi,hw,iG,lG,g,g',ek,l1,l2,l3,nu,n1,pT,pK,idx,aJ,df,pl,eO,cI,cO,bh,eC,bL,bH,sQi,iQi,lQi,DS,G2,G1]
theorem HN (n0 : Int) (F0 : List Ed) (l : List Int) (hl : l.length <= 500) (st : List Int) (sa : st.length <= 60) (bs : List Bool) (c m : Int) (GS : List AV) (lG : GS.length = 3) (g : ∀ i : Nat,i < 3 -> ∃ n F,SAg n F /\ F.length <= 1000 /\ GS[i]? = some (xh n F)) : ∀ k i a : Nat,i + k = 3 ->
  ∃ a',bj aj 0 (.loop MZ) ⟨saO st bs c m GS i [],[GZ n0 F0,dk l a]⟩ = some (.exit 0,⟨saO st bs c m GS 3 [(95,.bool false)],[GZ n0 F0,dk l a']⟩)
 | 0,i,a,hi => by
   obtain rfl : i = 3 := by omega
   refine ⟨a,bm ?_⟩;unfold saO GZ dk;generalize ints st = T1 at *;generalize fK bs = B1 at *;generalize ints l = D1 at *;generalize bc F0 = Y0 at *;unfold MZ;simp [kz,kt,ks,kr,kq,ko,kn,km,kl,kj,iz,iy,iw,iv,iu,iq,im,ik,ij,ig,ia,hZ,hO,hJ,gY,gX,gW,gV,gU,gS,gQ,gO,gN,gM,gL,gK,gJ,gI,gH,gG,gF,gD,gC,gz,gw,gr,gq,gk,gh,ga,fZ,fY,fX,fW,fV,fU,fT,fS,fR,fQ,fP,fO,fN,fM,lG,aJ]
 | k + 1,i,a,hi => by
   obtain ⟨n,F,hC,hF,h⟩ := g i (by omega);obtain ⟨a1,e⟩ := Wr n0 F0 l hl a n F hF hC st sa bs c m GS lG i (by omega) h;obtain ⟨a2,e2⟩ := HN n0 F0 l hl st sa bs c m GS lG g k (i + 1) a1 (by omega);exact ⟨a2,(aR e).trans e2⟩
/- mk.Light, mk.Spoilt. -/
def gA (n : Int) (F : List Ed) : AV := .agg [.int .i64 n,.list 2 (bc F)]
theorem UL (n : Int) (F : List Ed) (m : Int) (hm : 0 <= m /\ m <= 1000) : bf aj nQc [gA n F,.int .i64 m] [] = some (.bool (decide (n <= m) && decide ((F.length : Int) <= m * m)),[]) := by
 rw [aB oQc sQc (ab rfl)];have lF := au F
 have w : IntKind.i64.wrap (m * m) = m * m := by
  obtain ⟨h0,h1⟩ := hm;have : m * m <= 1000 * 1000 := Int.mul_le_mul h1 h1 h0 (by omega);have : 0 <= m * m := Int.mul_nonneg h0 h0;exact cS (by omega) (by omega)
 unfold gA;generalize bc F = Y at *;by_cases k : n <= m
 ·by_cases q : (F.length : Int) <= m * m
  ·unfold qQc cQc;simp [RX,RW,k,q,w,lF,aJ,aY,aV,df,pl]
  ·unfold qQc cQc;simp [RX,RW,k,q,w,lF,aJ,aY,aV,df,pl]
 ·unfold qQc cQc;simp [RX,RW,k,w,lF,aJ,aY,aV,df,pl]
def Low (F : List Ed) (m : Int) : Prop := ∀ e ∈ F,(0 <= e.1 /\ e.1 < m) /\ (0 <= e.2 /\ e.2 < m)
theorem Dy (F : List Ed) (i : Nat) (u v : Int) : (bc F).set i (.agg [.int .i64 u,.int .i64 v]) = bc (F.set i (u,v)) := by simp [bc,List.map_set,cB]
theorem aaq (l : List Int) (hl : l.length <= 500) (a : Nat) (N : Int) (hN : 0 <= N /\ N <= 64) (Es : List Ed) (hE : Es.length <= 10000) (hL : Low Es 9) : ∃ n' Es' a',bf aj nQg [.ptr 0 0,gA N Es] [dk l a] = some (gA n' Es',[dk l a']) /\ Es'.length <= Es.length + 1 /\ ∀ e ∈ Es',e.1 < 11 /\ e.2 < 11 := by
 have lE := au Es;have kE := aC Es;have aE := az Es;have tE : (bc Es).take Es.length = bc Es := aL (by omega);have mE : Es.length <= 4294967296 := by omega
 have n1 := eI l hl a 6 (by omega) [] ⟨fun _ => rfl,rfl,fun _ _ => rfl,fun _ => rfl,fun _ _ => rfl⟩;obtain ⟨b0,b1⟩ := oH l a (n := 6) (by omega);generalize tW l a 6 = a1 at *;generalize tV l a 6 = c at *;have lo : ∀ e ∈ Es,e.1 < 11 /\ e.2 < 11 := fun e he => by have := hL e he; omega
 by_cases c0 : c = 0
 ·subst c0;have n2 := eI l hl a1 70 (by omega) [] ⟨fun _ => rfl,rfl,fun _ _ => rfl,fun _ => rfl,fun _ _ => rfl⟩;obtain ⟨d0,d1⟩ := oH l a1 (n := 70) (by omega);generalize tW l a1 70 = a2 at *;generalize tV l a1 70 = d at *;have w : IntKind.i64.wrap (d - 2) = d - 2 := cS (by omega) (by omega);refine ⟨d - 2,Es,a2,?_,by omega,lo⟩;rw [aB Ya Ul (ab rfl)];unfold gA dk at *;generalize bc Es = Y at *;unfold Sw VM;simp [tl,tj,ti,th,tf,td,tc,tb,ta,s9,oC,oB,oA,ox,ot,oq,om,oi,oh,oe,n1,n2,w,lE,kE,aE,tE,mE,kR,aJ,aY,aV,eh,eO,cI,df,pl,fo,cO,bh,eC,bL,bH,eH,bV,du,cE,DS,G2,G1]
 by_cases c1 : c = 1
 ·subst c1;by_cases z : Es.length = 0
  ·skip
   obtain rfl : Es = [] := di z;rw [qG] at *;refine ⟨N,[],a1,?_,by simp,by simp⟩;rw [aB Ya Ul (ab rfl)];unfold gA dk at *;unfold Sw VM;simp [tl,tj,ti,th,tf,td,tc,tb,ta,s9,oC,oB,oA,ox,ot,oq,om,oi,oh,oe,n1,c0,qG,kR,idx,aJ,aY,aV,eh,eO,cI,df,pl,fo,cO,bh,eC,bL,bH,eH,bV,du,cE,DS,G2,G1]
  ·have z1 : (0 : Int) < Es.length := by omega
   have z2 : 0 < Es.length := by omega
   have n2 := eI l hl a1 (Es.length : Int) (by omega) [] ⟨fun _ => rfl,rfl,fun _ _ => rfl,fun _ => rfl,fun _ _ => rfl⟩;obtain ⟨d0,d1⟩ := oH l a1 (n := (Es.length : Int)) (by omega);generalize tW l a1 (Es.length : Int) = a2 at *;obtain ⟨i,hi⟩ : ∃ i : Nat,tV l a1 (Es.length : Int) = (i : Int) := ⟨(tV l a1 (Es.length : Int)).toNat,by omega⟩;rw [hi] at n2 d1;clear hi d0;have il : i < Es.length := by omega
   obtain ⟨u,v,CE⟩ : ∃ u v : Int,Es[i] = (u,v) := ⟨_,_,rfl⟩;have bE := hL _ (cG il);rw [CE] at bE;have gE : ∀ h,(bc Es)[i]'h = .agg [.int .i64 u,.int .i64 v] := fun h => by rw [bF,CE]; rfl
   have gE2 : (bc Es)[i]? = some (.agg [.int .i64 u,.int .i64 v]) := by rw [af (by omega),gE]
   have sE := Dy Es i v u;have l1 : (bc (Es.set i (v,u))).length = Es.length := by rw [au,dc]
   have tS : (bc (Es.set i (v,u))).take Es.length = bc (Es.set i (v,u)) := aL (by omega);refine ⟨N,Es.set i (v,u),a2,?_,by rw [dc]; omega,fun e he => ?_⟩
   ·rw [aB Ya Ul (ab rfl)];unfold gA dk at *;generalize bc (Es.set i (v,u)) = Y2 at *;clear CE hL lo bE;generalize bc Es = Y at *;unfold Sw VM;simp [tl,tj,ti,th,tf,td,tc,tb,ta,s9,oC,oB,oA,ox,ot,oq,om,oi,oh,oe,n1,n2,z,z1,z2,d1,il,gE,gE2,sE,l1,tS,List.set_set,dc,List.getElem_set_self,List.getElem?_set_self,lE,kE,aE,tE,mE,kR,idx,aJ,aY,aV,eh,eO,cI,df,pl,fo,cO,bh,eC,bL,bH,eH,bV,du,cE,DS,G2,G1]
   ·rcases bP he with q | q
    ·exact lo e q
    ·subst q; simp only; omega
 by_cases c2 : c = 2
 ·subst c2;by_cases z : Es.length = 0
  ·skip
   obtain rfl : Es = [] := di z;rw [qG] at *;refine ⟨N,[],a1,?_,by simp,by simp⟩;rw [aB Ya Ul (ab rfl)];unfold gA dk at *;unfold Sw VM;simp [tl,tj,ti,th,tf,td,tc,tb,ta,s9,oC,oB,oA,ox,ot,oq,om,oi,oh,oe,n1,c0,c1,qG,kR,idx,aJ,aY,aV,eh,eO,cI,df,pl,fo,cO,bh,eC,bL,bH,eH,bV,du,cE,DS,G2,G1]
  by_cases zz : Es.length = 1
  ·have z1 : ¬ (1 : Int) < Es.length := by omega
   have z2 : ¬ 1 < Es.length := by omega
   refine ⟨N,Es,a1,?_,by omega,lo⟩;rw [aB Ya Ul (ab rfl)];unfold gA dk at *;generalize bc Es = Y at *;unfold Sw VM;simp [tl,tj,ti,th,tf,td,tc,tb,ta,s9,oC,oB,oA,ox,ot,oq,om,oi,oh,oe,n1,c0,c1,z1,z2,lE,kE,aE,tE,mE,kR,idx,aJ,aY,aV,eh,eO,cI,df,pl,fo,cO,bh,eC,bL,bH,eH,bV,du,cE,DS,G2,G1]
  ·have z1 : (1 : Int) < Es.length := by omega
   have z2 : 1 < Es.length := by omega
   obtain ⟨m,hm⟩ : ∃ m : Nat,Es.length = m + 2 := ⟨Es.length - 2,by omega⟩;have w : IntKind.i64.wrap ((Es.length : Int) - 1) = ((m + 1 : Nat) : Int) := by rw [cS (by omega) (by omega)]; omega
   have il : 0 < Es.length := by omega
   have jl : m + 1 < Es.length := by omega
   obtain ⟨u,v,CE⟩ : ∃ u v : Int,Es[0] = (u,v) := ⟨_,_,rfl⟩;obtain ⟨x,y,hxy⟩ : ∃ x y : Int,Es[m + 1] = (x,y) := ⟨_,_,rfl⟩;have bE := hL _ (cG il);have bE2 := hL _ (cG jl);rw [CE] at bE;rw [hxy] at bE2;have g0 : ∀ h,(bc Es)[0]'h = .agg [.int .i64 u,.int .i64 v] := fun h => by rw [bF,CE]; rfl
   have g1 : ∀ h,(bc Es)[m + 1]'h = .agg [.int .i64 x,.int .i64 y] := fun h => by rw [bF,hxy]; rfl
   have g02 : (bc Es)[0]? = some (.agg [.int .i64 u,.int .i64 v]) := by rw [af (by omega),g0]
   have g12 : (bc Es)[m + 1]? = some (.agg [.int .i64 x,.int .i64 y]) := by rw [af (by omega),g1]
   have s0 := Dy Es 0 x y;have s1 := Dy (Es.set 0 (x,y)) (m + 1) u v;have g3 : ∀ h,(bc (Es.set 0 (x,y)))[m + 1]'h = .agg [.int .i64 x,.int .i64 y] := fun h => by rw [bF,List.getElem_set_ne (by omega),hxy]; rfl
   have g32 : (bc (Es.set 0 (x,y)))[m + 1]? = some (.agg [.int .i64 x,.int .i64 y]) := by rw [af (by rw [au,dc]; omega),g3]
   have l0 : (bc (Es.set 0 (x,y))).length = Es.length := by rw [au,dc]
   have l1 : (bc ((Es.set 0 (x,y)).set (m + 1) (u,v))).length = Es.length := by rw [au,dc,dc]
   have tS : (bc ((Es.set 0 (x,y)).set (m + 1) (u,v))).take Es.length = bc ((Es.set 0 (x,y)).set (m + 1) (u,v)) := aL (by omega);have j1 : ((m : Int) + 1) < Es.length := by omega
   have j2 : ¬ ((m : Int) + 1) < 0 := by omega
   have j3 : (0 : Int) <= (m : Int) + 1 := by omega
   refine ⟨N,(Es.set 0 (x,y)).set (m + 1) (u,v),a1,?_,by rw [dc,dc]; omega,fun e he => ?_⟩
   ·rw [aB Ya Ul (ab rfl)];unfold gA dk at *;generalize bc ((Es.set 0 (x,y)).set (m + 1) (u,v)) = Y2 at *;generalize bc (Es.set 0 (x,y)) = Y1 at *;clear CE hL lo bE bE2 hxy;generalize bc Es = Y at *;unfold Sw VM;simp [tl,tj,ti,th,tf,td,tc,tb,ta,s9,oC,oB,oA,ox,ot,oq,om,oi,oh,oe,n1,c0,c1,z,z1,z2,w,il,jl,g0,g1,g02,g12,g3,g32,s0,s1,l0,l1,tS,j1,j2,j3,lE,kE,aE,tE,mE,kR,idx,aJ,aY,aV,eh,eO,cI,df,pl,fo,cO,bh,eC,bL,bH,eH,bV,du,cE,DS,G2,G1]
   ·rcases bP he with q | q
    ·rcases bP q with q | q
     ·exact lo e q
     ·subst q; simp only; omega
    ·subst q; simp only; omega
 by_cases c3 : c = 3
 ·subst c3;by_cases z : Es.length = 0
  ·skip
   obtain rfl : Es = [] := di z;rw [qG] at *;refine ⟨N,[],a1,?_,by simp,by simp⟩;rw [aB Ya Ul (ab rfl)];unfold gA dk at *;unfold Sw VM;simp [tl,tj,ti,th,tf,td,tc,tb,ta,s9,oC,oB,oA,ox,ot,oq,om,oi,oh,oe,n1,c0,c1,c2,qG,kR,idx,aJ,aY,aV,eh,eO,cI,df,pl,fo,cO,bh,eC,bL,bH,eH,bV,du,cE,DS,G2,G1]
  ·have z1 : (0 : Int) < Es.length := by omega
   have z2 : 0 < Es.length := by omega
   obtain ⟨m,hm⟩ : ∃ m : Nat,Es.length = m + 1 := ⟨Es.length - 1,by omega⟩;have w : IntKind.i64.wrap ((Es.length : Int) - 1) = (m : Int) := by rw [cS (by omega) (by omega)]; omega
   have jl : m < Es.length := by omega
   have jl2 : (m : Int) < Es.length := by omega
   obtain ⟨x,y,hxy⟩ : ∃ x y : Int,Es[m] = (x,y) := ⟨_,_,rfl⟩;have bE := hL _ (cG jl);rw [hxy] at bE;have g1 : ∀ h,(bc Es)[m]'h = .agg [.int .i64 x,.int .i64 y] := fun h => by rw [bF,hxy]; rfl
   have g12 : (bc Es)[m]? = some (.agg [.int .i64 x,.int .i64 y]) := by rw [af (by omega),g1]
   have sn := pn Es x y;have l1 : (bc (Es ++ [(x,y)])).length = Es.length + 1 := by rw [au]; simp
   have tS : (bc (Es ++ [(x,y)])).take (Es.length + 1) = bc (Es ++ [(x,y)]) := aL (by omega);have mE2 : Es.length + 1 <= 4294967296 := by omega
   refine ⟨N,Es ++ [(x,y)],a1,?_,by simp,fun e he => ?_⟩
   ·rw [aB Ya Ul (ab rfl)];unfold gA dk at *;generalize bc (Es ++ [(x,y)]) = Y2 at *;clear hL lo bE hxy;generalize bc Es = Y at *;unfold Sw VM;simp [tl,tj,ti,th,tf,td,tc,tb,ta,s9,oC,oB,oA,ox,ot,oq,om,oi,oh,oe,n1,c0,c1,c2,z,z1,z2,w,jl,jl2,g1,g12,sn,l1,tS,mE2,lE,kE,aE,tE,mE,kR,idx,aJ,aY,aV,eh,eO,cI,df,pl,fo,cO,bh,eC,bL,bH,eH,bV,du,cE,DS,G2,G1]
   ·rcases List.mem_append.1 he with q | q
    ·exact lo e q
    ·rw [List.mem_singleton] at q; subst q; simp only; omega
 by_cases c4 : c = 4
 ·subst c4;by_cases z : Es.length = 0
  ·skip
   obtain rfl : Es = [] := di z;rw [qG] at *;refine ⟨N,[],a1,?_,by simp,by simp⟩;rw [aB Ya Ul (ab rfl)];unfold gA dk at *;unfold Sw VM;simp [tl,tj,ti,th,tf,td,tc,tb,ta,s9,oC,oB,oA,ox,ot,oq,om,oi,oh,oe,n1,c0,c1,c2,c3,qG,kR,idx,aJ,aY,aV,eh,eO,cI,df,pl,fo,cO,bh,eC,bL,bH,eH,bV,du,cE,DS,G2,G1]
  ·have z1 : (0 : Int) < Es.length := by omega
   have z2 : 0 < Es.length := by omega
   have n2 := eI l hl a1 (Es.length : Int) (by omega) [] ⟨fun _ => rfl,rfl,fun _ _ => rfl,fun _ => rfl,fun _ _ => rfl⟩;obtain ⟨d0,d1⟩ := oH l a1 (n := (Es.length : Int)) (by omega);generalize tW l a1 (Es.length : Int) = a2 at *;obtain ⟨i,hi⟩ : ∃ i : Nat,tV l a1 (Es.length : Int) = (i : Int) := ⟨(tV l a1 (Es.length : Int)).toNat,by omega⟩;rw [hi] at n2 d1;clear hi d0;have n3 := eI l hl a2 5 (by omega) [] ⟨fun _ => rfl,rfl,fun _ _ => rfl,fun _ => rfl,fun _ _ => rfl⟩;obtain ⟨f0,f1⟩ := oH l a2 (n := 5) (by omega);generalize tW l a2 5 = a3 at *;generalize tV l a2 5 = d at *;have il : i < Es.length := by omega
   obtain ⟨u,v,CE⟩ : ∃ u v : Int,Es[i] = (u,v) := ⟨_,_,rfl⟩;have bE := hL _ (cG il);rw [CE] at bE;have gE : ∀ h,(bc Es)[i]'h = .agg [.int .i64 u,.int .i64 v] := fun h => by rw [bF,CE]; rfl
   have gE2 : (bc Es)[i]? = some (.agg [.int .i64 u,.int .i64 v]) := by rw [af (by omega),gE]
   have w1 : IntKind.i64.wrap (d - 2) = d - 2 := cS (by omega) (by omega);have w2 : IntKind.i64.wrap (v + (d - 2)) = v + (d - 2) := cS (by omega) (by omega);have sE := Dy Es i u (v + (d - 2));have l1 : (bc (Es.set i (u,v + (d - 2)))).length = Es.length := by rw [au,dc]
   have tS : (bc (Es.set i (u,v + (d - 2)))).take Es.length = bc (Es.set i (u,v + (d - 2))) := aL (by omega);refine ⟨N,Es.set i (u,v + (d - 2)),a3,?_,by rw [dc]; omega,fun e he => ?_⟩
   ·rw [aB Ya Ul (ab rfl)];unfold gA dk at *;generalize bc (Es.set i (u,v + (d - 2))) = Y2 at *;clear CE hL lo bE;generalize bc Es = Y at *;unfold Sw VM;simp [tl,tj,ti,th,tf,td,tc,tb,ta,s9,oC,oB,oA,ox,ot,oq,om,oi,oh,oe,n1,n2,n3,c0,c1,c2,c3,z,z1,z2,d1,il,gE,gE2,w1,w2,sE,l1,tS,lE,kE,aE,tE,mE,kR,idx,aJ,aY,aV,eh,eO,cI,df,pl,fo,cO,bh,eC,bL,bH,eH,bV,du,cE,DS,G2,G1]
   ·rcases bP he with q | q
    ·exact lo e q
    ·subst q; simp only; omega
 refine ⟨N,Es,a1,?_,by omega,lo⟩;rw [aB Ya Ul (ab rfl)];unfold gA dk at *;generalize bc Es = Y at *;unfold Sw VM;simp [tl,tj,ti,th,tf,td,tc,tb,ta,s9,oC,oB,oA,ox,ot,oq,om,oi,oh,oe,n1,c0,c1,c2,c3,c4,lE,kE,aE,tE,mE,kR,idx,aJ,aY,aV,eh,eO,cI,df,pl,fo,cO,bh,eC,bL,bH,eH,bV,du,cE,DS,G2,G1]
/- The law: all functions answer as the reference does. -/
theorem Z7 : bf aj nQd [] [] = some (.bool true,[]) := lk.2 ⟨3000,by kernel_rfl⟩
theorem Yc (l : List Int) (n : Int) (F : List Ed) : bf aj nQe [.list 1 (ints l)] [GZ n F] = some (.ptr 1 0,[GZ n F,dk l 0]) := by
 rw [aB oQe sQe (ab rfl)];unfold GZ;generalize bc F = Y;unfold qQe cQe dk;simp [acy,acx,eh,eO,fL,cV,cn,fo,aY,aV,aJ]
theorem Jt : ∀ l : List Ed,kH (bc l) (bc l) = true
 | [] => rfl
 | x :: r => by
   have ih := Jt r;rw [ZB];simp [kH,oN,ih]
/-! The reservoirs -/
theorem aay {size : Int} {n : Nat} {P : List Int} (h : Vw size n P) (hn : n <= 4096) : (wU n P).length <= 4096 := by
 unfold wU;have := List.length_filter_le (fun x => decide (x ∈ P)) ((wW n).map fun i => ((i : Nat) : Int));rw [iM,List.length_range] at this;omega
theorem JP (n size : Int) (ch : List Int) (hl : ch.length <= 9223372036854775807) : ∃ (w : List Int) (e : Int),w.length <= 4096 /\ bf aj nQy [.int .i64 n,.int .i64 size,.list 1 (ints ch)] [] = some (.dp [.list 1 (ints w),.int .i64 e],[]) /\ bf aj nQz [.int .i64 n,.int .i64 size,.list 1 (ints ch)] [] = some (.dp [.list 1 (ints w),.int .i64 e],[]) := by
 have s := XP n size ch hl;have r := Wy n size ch hl;unfold Wx at s r;by_cases h1 : n < 0 \/ 4096 < n \/ size < 1 \/ 4096 < size
 ·rw [if_pos h1] at s r;exact ⟨[],_,by simp,s,r⟩
 rw [if_neg h1] at s r;by_cases h2 : (ch.length : Int) ≠ max (n - size) 0
 ·rw [if_pos h2] at s r;exact ⟨[],_,by simp,s,r⟩
 rw [if_neg h2] at s r;cases hr : QU size ch n.toNat 0 [] with
 | none =>
   rw [hr] at s r;exact ⟨[],_,by simp,s,r⟩
 | some P =>
   rw [hr] at s r;have hI := wi n.toNat 0 [] P (um size (by omega)) hr;rw [Nat.zero_add] at hI;exact ⟨_,_,aay hI (by omega),s,r⟩
def LF (x y z : Int) : AV := .agg [.int .i64 x,.int .i64 y,.int .i64 z]
def QL (st : List Int) (V : AV) (TS : List AV) (i : Int) (J : Env) : Env := (1,.list 1 (ints st)) :: (55,V) :: (323,.own 3 TS) :: (324,.int .i64 3) :: (325,.int .i64 i) :: J
theorem sa_r (st : List Int) (sa : st.length <= 60) (rt : List Int) (hrt : rt.length <= 60) (TS : List AV) (lT : TS.length = 3) (i : Nat) (hi : i < 3) (x y z : Int) (z1 : ¬ z = 1) (g : TS[i]? = some (LF x y z)) :
  bj aj 0 zM ⟨QL st (.own 1 (ints rt)) TS i [],[]⟩ = some (.normal,⟨QL st (.own 1 (ints rt)) TS ((i + 1 : Nat) : Int) [],[]⟩) := by
 have i3 : (i : Int) < 3 := by omega
 have hw := dw (i := i) (by omega);have g' : ∀ h : i < TS.length,TS[i] = LF x y z := fun h => by rw [af h] at g; exact bU g
 have iT : i < TS.length := by omega
 have gT := ae st;have gR := ae rt;obtain ⟨w,e,lw,s,r⟩ := JP x y st (by omega);have cm := Ad w (by omega);have tk : (ints rt).take rt.length = ints rt := aL (by omega);unfold LF at *;unfold QL;generalize ints w = W1 at *;generalize ints st = T1 at *;generalize ints rt = T2 at *;unfold zM;simp [kz,kt,ks,kr,kq,ko,kn,km,kl,kj,iz,iy,iw,iv,iu,iq,im,ik,ij,ig,ia,hZ,hO,hJ,gY,gX,gW,gV,gU,gS,gQ,gO,gN,gM,gL,gK,gJ,gI,gH,gG,gF,gD,gC,gz,gw,gr,gq,gk,gh,ga,fZ,fY,fX,fW,fV,fU,fT,fS,fR,fQ,fP,fO,fN,fM,i3,hi,hw,iT,lT,g,g',s,r,cm,gR,tk,z1,idx,aJ,df,pl,eO,cI,cO,bh,eC,bL,bH,sQy,iQy,lQy,sQz,iQz,lQz,sQx,iQx,lQx]
theorem af3 (st : List Int) (sa : st.length <= 60) (rt : List Int) (hrt : rt.length <= 60) (TS : List AV) (lT : TS.length = 3) (i : Nat) (hi : i < 3) (x y z : Int) (z1 : z = 1) (g : TS[i]? = some (LF x y z)) :
  bj aj 0 zM ⟨QL st (.own 1 (ints rt)) TS i [],[]⟩ = some (.normal,⟨QL st (.list 1 (ints rt)) TS ((i + 1 : Nat) : Int) [],[]⟩) := by
 have i3 : (i : Int) < 3 := by omega
 have hw := dw (i := i) (by omega);have g' : ∀ h : i < TS.length,TS[i] = LF x y z := fun h => by rw [af h] at g; exact bU g
 have iT : i < TS.length := by omega
 have gT := ae st;have gR := ae rt;subst z1;obtain ⟨w,e,lw,s,r⟩ := JP x y rt (by omega);have cm := Ad w (by omega);have tk : (ints rt).take rt.length = ints rt := aL (by omega);unfold LF at *;unfold QL;generalize ints w = W1 at *;generalize ints st = T1 at *;generalize ints rt = T2 at *;unfold zM;simp [kz,kt,ks,kr,kq,ko,kn,km,kl,kj,iz,iy,iw,iv,iu,iq,im,ik,ij,ig,ia,hZ,hO,hJ,gY,gX,gW,gV,gU,gS,gQ,gO,gN,gM,gL,gK,gJ,gI,gH,gG,gF,gD,gC,gz,gw,gr,gq,gk,gh,ga,fZ,fY,fX,fW,fV,fU,fT,fS,fR,fQ,fP,fO,fN,fM,i3,hi,hw,iT,lT,g,g',s,r,cm,gR,tk,idx,aJ,df,pl,eO,cI,cO,bh,eC,bL,bH,sQy,iQy,lQy,sQz,iQz,lQz,sQx,iQx,lQx]
theorem af2 (st : List Int) (sa : st.length <= 60) (rt : List Int) (hrt : rt.length <= 60) (TS : List AV) (lT : TS.length = 3) (i : Nat) (hi : i < 3) (x y z : Int) (z1 : ¬ z = 1) (g : TS[i]? = some (LF x y z)) :
  bj aj 0 zM ⟨QL st (.list 1 (ints rt)) TS i [],[]⟩ = some (.normal,⟨QL st (.list 1 (ints rt)) TS ((i + 1 : Nat) : Int) [],[]⟩) := by
 have i3 : (i : Int) < 3 := by omega
 have hw := dw (i := i) (by omega);have g' : ∀ h : i < TS.length,TS[i] = LF x y z := fun h => by rw [af h] at g; exact bU g
 have iT : i < TS.length := by omega
 have gT := ae st;have gR := ae rt;obtain ⟨w,e,lw,s,r⟩ := JP x y st (by omega);have cm := Ad w (by omega);have tk : (ints rt).take rt.length = ints rt := aL (by omega);unfold LF at *;unfold QL;generalize ints w = W1 at *;generalize ints st = T1 at *;generalize ints rt = T2 at *;unfold zM;simp [kz,kt,ks,kr,kq,ko,kn,km,kl,kj,iz,iy,iw,iv,iu,iq,im,ik,ij,ig,ia,hZ,hO,hJ,gY,gX,gW,gV,gU,gS,gQ,gO,gN,gM,gL,gK,gJ,gI,gH,gG,gF,gD,gC,gz,gw,gr,gq,gk,gh,ga,fZ,fY,fX,fW,fV,fU,fT,fS,fR,fQ,fP,fO,fN,fM,i3,hi,hw,iT,lT,g,g',s,r,cm,gR,tk,z1,idx,aJ,df,pl,eO,cI,cO,bh,eC,bL,bH,sQy,iQy,lQy,sQz,iQz,lQz,sQx,iQx,lQx]
theorem acq (st : List Int) (sa : st.length <= 60) (rt : List Int) (hrt : rt.length <= 60) (x0 y0 x1 y1 x2 y2 : Int) :
  bj aj 0 (.loop zM) ⟨QL st (.own 1 (ints rt)) [LF x0 y0 0,LF x1 y1 1,LF x2 y2 0] 0 [],[]⟩ = some (.exit 10,⟨QL st (.list 1 (ints rt)) [LF x0 y0 0,LF x1 y1 1,LF x2 y2 0] 3 [(326,.bool false)],[]⟩) := by
 refine (aR (sa_r st sa rt hrt _ rfl 0 (by omega) x0 y0 0 (by omega) rfl)).trans ((aR (af3 st sa rt hrt _ rfl 1 (by omega) x1 y1 1 rfl rfl)).trans ((aR (af2 st sa rt hrt _ rfl 2 (by omega) x2 y2 0 (by omega) rfl)).trans (bm ?_)));unfold QL;generalize ints st = T1 at *;generalize ints rt = T2 at *;unfold zM;simp [kz,kt,ks,kr,kq,ko,kn,km,kl,kj,iz,iy,iw,iv,iu,iq,im,ik,ij,ig,ia,hZ,hO,hJ,gY,gX,gW,gV,gU,gS,gQ,gO,gN,gM,gL,gK,gJ,gI,gH,gG,gF,gD,gC,gz,gw,gr,gq,gk,gh,ga,fZ,fY,fX,fW,fV,fU,fT,fS,fR,fQ,fP,fO,fN,fM,aJ]
def saU (n0 : Int) (F0 : List Ed) (l : List Int) (st : List Int) (c m : Int) (A B : Nat) (i : Nat) (rt : List Int) (a : Nat) (J : Env) : St := ⟨(1,.list 1 (ints st)) :: (4,.int .i64 c) :: (5,.int .i64 m) :: (13,.ptr 1 0) :: (53,.int .i64 A) :: (54,.int .i64 B) :: (55,.own 1 (ints rt)) :: (56,.int .i64 i) :: J,[GZ n0 F0,dk l a]⟩
theorem sa_u (n0 : Int) (F0 : List Ed) (l : List Int) (hl : l.length <= 500) (st : List Int) (c m : Int) (A B : Nat) (hA : A <= 20) : ∀ (k i a : Nat) (rt : List Int),A <= i + k -> rt.length + k <= 40 -> ∃ i' a' rt',rt'.length <= 40 /\ bj aj 0 (.loop Tf) (saU n0 F0 l st c m A B i rt a []) = some (.exit 8,saU n0 F0 l st c m A B i' rt' a' [(297,.bool false)])
 | k,i,a,rt,hi,hr => by
   by_cases h : i < A
   case neg =>
    have h1 : ¬ (i : Int) < A := by omega
    have h2 : A <= i := by omega
    refine ⟨i,a,rt,by omega,bm ?_⟩;unfold saU GZ dk;generalize ints st = T1 at *;generalize ints rt = T2 at *;generalize ints l = D1 at *;generalize bc F0 = Y0 at *;unfold Tf;simp [kz,kt,ks,kr,kq,ko,kn,km,kl,kj,iz,iy,iw,iv,iu,iq,im,ik,ij,ig,ia,hZ,hO,hJ,gY,gX,gW,gV,gU,gS,gQ,gO,gN,gM,gL,gK,gJ,gI,gH,gG,gF,gD,gC,gz,gw,gr,gq,gk,gh,ga,fZ,fY,fX,fW,fV,fU,fT,fS,fR,fQ,fP,fO,fN,fM,h1,h2,h,aJ]
   match k,hi,hr with
   | 0,hi,_ => omega
   | k + 1,hi,hr =>
     have h1 : (i : Int) < A := by omega
     have hw := dw (i := i) (by omega);have n1 := eI l (by omega) a ((i + 1 : Nat) : Int) (by omega) [] yS;generalize tW l a ((i + 1 : Nat) : Int) = a1 at *;generalize tV l a ((i + 1 : Nat) : Int) = x at *;obtain ⟨i',a',rt',lr,e⟩ := sa_u n0 F0 l hl st c m A B hA k (i + 1) a1 (rt ++ [x]) (by omega) (by simp; omega);refine ⟨i',a',rt',lr,(aR ?_).trans e⟩;have lx : rt.length + 1 <= 4294967296 := by omega
     rw [show ((i + 1 : Nat) : Int) = (i : Int) + 1 by omega] at n1;clear e lr;unfold saU GZ;unfold dk at *;generalize ints st = T1 at *;generalize ints l = D1 at *;generalize bc F0 = Y0 at *;unfold Tf;simp [kz,kt,ks,kr,kq,ko,kn,km,kl,kj,iz,iy,iw,iv,iu,iq,im,ik,ij,ig,ia,hZ,hO,hJ,gY,gX,gW,gV,gU,gS,gQ,gO,gN,gM,gL,gK,gJ,gI,gH,gG,gF,gD,gC,gz,gw,gr,gq,gk,gh,ga,fZ,fY,fX,fW,fV,fU,fT,fS,fR,fQ,fP,fO,fN,fM,h1,h,hw,n1,lx,kR,er,dE,cX,ae,idx,aJ,eO,cI,cO,bh,eC,bL,bH,DS,G2,G1]
theorem Uj {n1 n2 n3 : Int} {F1 F2 F3 : List Ed} (l1 : F1.length <= 1000) (l2 : F2.length <= 1000) (l3 : F3.length <= 1000) :
  ∀ i : Nat,i < 3 -> ∃ n F,SAg n F /\ F.length <= 1000 /\ ([xh n1 F1,xh n2 F2,xh n3 F3] : List AV)[i]? = some (xh n F) := by
 intro i hi
 match i,hi with
 | 0,_ => exact ⟨_,_,JJ _ _ (by omega),l1,rfl⟩
 | 1,_ => exact ⟨_,_,JJ _ _ (by omega),l2,rfl⟩
 | 2,_ => exact ⟨_,_,JJ _ _ (by omega),l3,rfl⟩
theorem Zj {N : Nat} {Es : List Ed} (hG : kC (N : Int) Es) (hN : N <= 8) : Es.length <= 64 := by
 have h := hG.2.1
 have hn : (Es.map fun e => e.1.toNat * 8 + e.2.toNat).Nodup := by
  rw [List.Nodup,List.pairwise_map];unfold Ql at h;refine (List.Pairwise.imp_of_mem (fun {a b} ha hb k => ?_) h);have h1 := hG.2.2 a ha;have h2 := hG.2.2 b hb;unfold yj at k;omega
 have hs : ∀ x ∈ Es.map fun e => e.1.toNat * 8 + e.2.toNat,x ∈ wW 64 := by
  intro x hx;obtain ⟨e,he,rfl⟩ := List.mem_map.1 hx;have := hG.2.2 e he;rw [List.mem_range];omega
 have := (List.subset_def.2 fun {x} hx => hs x hx : (Es.map fun e => e.1.toNat * 8 + e.2.toNat) ⊆ wW 64);have h3 := hn.length_le_of_subset this;rw [iM,List.length_range] at h3;exact h3
theorem Wq (l st : List Int) (n0 : Int) (F0 : List Ed) (bs : List Bool) (c m : Int) : bf aj nQa [.list 1 (ints l),.list 1 (ints st),.agg [.int .i64 n0,.list 2 (bc F0)],.list 1 (fK bs),.int .i64 c,.int .i64 m] [] = some (.bool true,[]) := by
 rw [aB oQa sQa (ab rfl)];have aw := Z7;have few := abu l;have lt := UL n0 F0 9 (by omega);have lS := ae st;have lB := iU bs;by_cases hl : (l.length : Int) <= 500
 case neg =>
  unfold gA at lt;generalize bc F0 = Y0 at *;generalize ints st = T1 at *;generalize fK bs = B1 at *;generalize ints l = D1 at *;unfold qQa cQa;simp [kz,kt,ks,kr,kq,ko,kn,km,kl,kj,iz,iy,iw,iv,iu,iq,im,ik,ij,ig,ia,hZ,hO,hJ,gY,gX,gW,gV,gU,gS,gQ,gO,gN,gM,gL,gK,gJ,gI,gH,gG,gF,gD,gC,gz,gw,gr,gq,gk,gh,ga,fZ,fY,fX,fW,fV,fU,fT,fS,fR,fQ,fP,fO,fN,fM,few,hl,aw,aJ,aY,aV,sQb,iQb,lQb,sQd,iQd,lQd]
 by_cases hs : st.length <= 60
 case neg =>
  have h1 : (60 : Int) < st.length := by omega
  have h2 : 60 < st.length := by omega
  unfold gA at lt;generalize bc F0 = Y0 at *;generalize ints st = T1 at *;generalize fK bs = B1 at *;generalize ints l = D1 at *;unfold qQa cQa;simp [kz,kt,ks,kr,kq,ko,kn,km,kl,kj,iz,iy,iw,iv,iu,iq,im,ik,ij,ig,ia,hZ,hO,hJ,gY,gX,gW,gV,gU,gS,gQ,gO,gN,gM,gL,gK,gJ,gI,gH,gG,gF,gD,gC,gz,gw,gr,gq,gk,gh,ga,fZ,fY,fX,fW,fV,fU,fT,fS,fR,fQ,fP,fO,fN,fM,few,hl,aw,lS,h1,h2,aJ,aY,aV,sQb,iQb,lQb,sQd,iQd,lQd]
 have h1 : ¬ (60 : Int) < st.length := by omega
 have h2 : ¬ 60 < st.length := by omega
 by_cases hb : bs.length <= 80
 case neg =>
  have h3 : (80 : Int) < bs.length := by omega
  have h4 : 80 < bs.length := by omega
  unfold gA at lt;generalize bc F0 = Y0 at *;generalize ints st = T1 at *;generalize fK bs = B1 at *;generalize ints l = D1 at *;unfold qQa cQa;simp [kz,kt,ks,kr,kq,ko,kn,km,kl,kj,iz,iy,iw,iv,iu,iq,im,ik,ij,ig,ia,hZ,hO,hJ,gY,gX,gW,gV,gU,gS,gQ,gO,gN,gM,gL,gK,gJ,gI,gH,gG,gF,gD,gC,gz,gw,gr,gq,gk,gh,ga,fZ,fY,fX,fW,fV,fU,fT,fS,fR,fQ,fP,fO,fN,fM,few,hl,aw,lS,lB,h1,h2,h3,h4,aJ,aY,aV,sQb,iQb,lQb,sQd,iQd,lQd]
 have h3 : ¬ (80 : Int) < bs.length := by omega
 have h4 : ¬ 80 < bs.length := by omega
 by_cases hg : n0 <= 9 /\ F0.length <= 81
 case neg =>
  have e : (decide (n0 <= 9) && decide ((F0.length : Int) <= 9 * 9)) = false := by
   rw [Bool.and_eq_false_iff,decide_eq_false_iff_not,decide_eq_false_iff_not];by_cases q : n0 <= 9
   ·exact .inr (by have : ¬ F0.length <= 81 := fun k => hg ⟨q,k⟩; omega)
   ·exact .inl q
  rw [e] at lt;unfold gA at lt;generalize bc F0 = Y0 at *;generalize ints st = T1 at *;generalize fK bs = B1 at *;generalize ints l = D1 at *;unfold qQa cQa;simp [kz,kt,ks,kr,kq,ko,kn,km,kl,kj,iz,iy,iw,iv,iu,iq,im,ik,ij,ig,ia,hZ,hO,hJ,gY,gX,gW,gV,gU,gS,gQ,gO,gN,gM,gL,gK,gJ,gI,gH,gG,gF,gD,gC,gz,gw,gr,gq,gk,gh,ga,fZ,fY,fX,fW,fV,fU,fT,fS,fR,fQ,fP,fO,fN,fM,few,hl,aw,lt,lS,lB,h1,h2,h3,h4,aJ,aY,aV,sQb,iQb,lQb,sQd,iQd,lQd,sQc,iQc,lQc]
 obtain ⟨g1,g2⟩ := hg;rw [decide_eq_true g1,Bool.true_and,decide_eq_true (show (F0.length : Int) <= 9 * 9 by omega)] at lt;have hl5 : l.length <= 500 := by omega
 have nw := Yc l n0 F0;obtain ⟨N,Es,a1,g0,hG,hN8,hE⟩ := U5 l (by omega) 8 (by omega) 0;rw [show ((8 : Nat) : Int) = 8 from rfl] at g0;have hE64 := Zj hG hN8;have low : Low Es 9 := fun e he => by have := hG.2.2 e he; omega
 obtain ⟨n4,Es4,a4,sp,lE4,_⟩ := aaq l hl5 a1 N (by omega) Es hE low;obtain ⟨a5,lp⟩ := HN n0 F0 l hl5 st hs bs c m [xh N Es,xh n0 F0,xh n4 Es4] rfl (Uj (by omega) (by omega) (by omega)) 3 0 a4 rfl;have n1 := eI l (by omega) a5 9 (by omega) [] yS;obtain ⟨b0,b1⟩ := oH l a5 (n := 9) (by omega);generalize tW l a5 9 = a6 at *;obtain ⟨A,hA⟩ : ∃ A : Nat,tV l a5 9 = (A : Int) := ⟨(tV l a5 9).toNat,by omega⟩;rw [hA] at n1 b1;have n2 := eI l (by omega) a6 5 (by omega) [] yS;obtain ⟨b2,b3⟩ := oH l a6 (n := 5) (by omega);generalize tW l a6 5 = a7 at *;obtain ⟨B,hB⟩ : ∃ B : Nat,tV l a6 5 = (B : Int) := ⟨(tV l a6 5).toNat,by omega⟩;rw [hB] at n2 b3;have wB : IntKind.i64.wrap (1 + (B : Int)) = ((B + 1 : Nat) : Int) := by rw [cS (by omega) (by omega)]; omega
 obtain ⟨i',a8,rt,lr,lu⟩ := sa_u n0 F0 l hl5 st c m A (B + 1) (by omega) 9 (B + 1) a7 [] (by omega) (by simp);have n3 := eI l (by omega) a8 8 (by omega) [] yS;generalize tW l a8 8 = a9 at *;generalize tV l a8 8 = q at *;have wl : IntKind.i64.wrap ((st.length : Int) + 2) = (st.length : Int) + 2 := cS (by omega) (by omega);have av0 := Jt F0;have pS := u7 st;have pB := Ku bs;unfold saO at lp;unfold saU at lu;unfold xh gA at *;unfold GZ dk at *;simp only [iB,ec] at g0 nw lp lu;rw [show ((B + 1 : Nat) : Int) = (B : Int) + 1 by omega] at lu wB;have lx : rt.length + 1 <= 4294967296 := by omega
 have gR := ae rt;have tkR : (ints rt).take rt.length = ints rt := aL (by omega);clear hG low hA hB;by_cases q7 : q = 7
 ·subst q7;have lz := acq st hs (rt ++ [3]) (by simp; omega) m c A ((B : Int) + 1) ((st.length : Int) + 2) 2;unfold QL LF at lz;generalize bc Es = Y at *;generalize bc Es4 = Y4 at *;generalize bc F0 = Y0 at *;generalize ints st = T1 at *;generalize fK bs = B1 at *;generalize ints l = D1 at *;unfold qQa cQa;simp [kz,kt,ks,kr,kq,ko,kn,km,kl,kj,iz,iy,iw,iv,iu,iq,im,ik,ij,ig,ia,hZ,hO,hJ,gY,gX,gW,gV,gU,gS,gQ,gO,gN,gM,gL,gK,gJ,gI,gH,gG,gF,gD,gC,gz,gw,gr,gq,gk,gh,ga,fZ,fY,fX,fW,fV,fU,fT,fS,fR,fQ,fP,fO,fN,fM,few,hl,aw,lt,lS,lB,h1,h2,h3,h4,nw,g0,sp,lp,n1,n2,n3,wB,lu,wl,lz,av0,pS,pB,lx,kR,er,dE,cX,ae,idx,aJ,aY,aV,eO,cI,df,pl,cO,bh,eC,fo,bL,bH,eH,bV,du,cE,dy,jb,kM,sO,iH,qZ,oN,kH,sQb,iQb,lQb,sQd,iQd,lQd,sQc,iQc,lQc,sQe,iQe,lQe,sQf,iQf,lQf,Ul,iQg,lQg,DS,G2,G1]
 ·have lz := acq st hs rt (by omega) m c A ((B : Int) + 1) ((st.length : Int) + 2) 2;unfold QL LF at lz;generalize bc Es = Y at *;generalize bc Es4 = Y4 at *;generalize bc F0 = Y0 at *;generalize ints st = T1 at *;generalize ints rt = T2 at *;generalize fK bs = B1 at *;generalize ints l = D1 at *;unfold qQa cQa;simp [kz,kt,ks,kr,kq,ko,kn,km,kl,kj,iz,iy,iw,iv,iu,iq,im,ik,ij,ig,ia,hZ,hO,hJ,gY,gX,gW,gV,gU,gS,gQ,gO,gN,gM,gL,gK,gJ,gI,gH,gG,gF,gD,gC,gz,gw,gr,gq,gk,gh,ga,fZ,fY,fX,fW,fV,fU,fT,fS,fR,fQ,fP,fO,fN,fM,few,hl,aw,lt,lS,lB,h1,h2,h3,h4,nw,g0,sp,lp,n1,n2,n3,wB,lu,wl,lz,q7,gR,tkR,av0,pS,pB,lx,kR,idx,aJ,aY,aV,eO,cI,df,pl,cO,bh,eC,fo,bL,bH,eH,bV,du,cE,dy,jb,kM,sO,iH,qZ,oN,kH,sQb,iQb,lQb,sQd,iQd,lQd,sQc,iQc,lQc,sQe,iQe,lQe,sQf,iQf,lQf,Ul,iQg,lQg,DS,G2,G1]
end Go.BmP
