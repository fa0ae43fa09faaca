/- ref18.Cores. -/
import Derived.Test.YtbnheahpdodmjabGreatDoorHkH
set_option linter.unusedSimpArgs false
set_option linter.unusedVariables false
set_option maxRecDepth 100000
set_option maxHeartbeats 8000000
open Bool renaming or_eq_true → eE
open List renaming foldl_cons → dV, getElem?_eq_getElem → aj, length_filter_le → Cg, mem_cons → aO, mem_cons_of_mem → cK, mem_cons_self → cI, mem_filter → fV, not_mem_nil → uR
open Nat renaming zero_le → yM
open Option.some renaming inj → bj
namespace Go.BmP
open Go.Am Go.Bm
theorem Mt {N:Nat} {Es:List Ed} (hG:uQ (N:Int) Es) (f:Ed->Bool):uQ (N:Int) (Es.filter f):=
 ⟨hG.1,List.Pairwise.sublist List.filter_sublist hG.2.1,fun e he=>hG.2.2 e (fV.1 he).1⟩
theorem agS {A:List Nat} {N k:Nat} {L C:List Int} (hL:rG A N L) (hC:∀x:Int,x∈C ↔ ∃j:Nat,x=j/\Wi A (2 ^ N-1) k j) (a:Nat):(a:Int)∈C ↔ (EZ L k).testBit a=true:=by
 rw[hC,EY];constructor
 ·rintro⟨j,e,h⟩;obtain rfl:a=j:=by omega
  have hN:=RG h;obtain⟨x,e2,q⟩:=hL.2 a hN;have:=(q k).2 (.inr h);exact⟨by have:=hL.1; omega,by omega⟩
 ·rintro⟨h1,h2⟩;have hN:a<N:=by have:=hL.1; omega
  obtain⟨x,e2,q⟩:=hL.2 a hN;refine⟨a,rfl,?_⟩;rcases (q k).1 (by omega) with r|r
  ·subst r;exact⟨2 ^ N-1,fun _ h=>h,by rw[Nat.testBit_two_pow_sub_one]; exact decide_eq_true hN,fun j _=>yM _⟩
  ·exact r
def XR (N:Nat) (Es:List Ed) (M k:Nat) (C:List Int) (cs:List Nat) (a:List (List Int × Int)) (j:Nat) (J:Env):St:=⟨(1,.ptr 0 0)::(4,.int .i64 M)::(6,.own 3 (xf a))::(7,.int .i64 k)::(8,.list 1 (ints C))::(46,.list 1 (gJ cs))::(47,.int .i64 cs.length)::(48,.int .i64 j)::J,yV N Es⟩
def adS (m:Nat) (k:Int) (a:List (List Int × Int)) (R:Nat):List (List Int × Int):=if XU m R=true then qC a (bZ R) k else a
theorem Wf:∀(a:List (List Int × Int)) (s:List Int) (k:Int),(qC a s k).length<=a.length+1
 |[],s,k=>by simp[qC]
 |(t,j)::r,s,k=>by
   have:=Wf r s k;unfold qC;split<;>simp only[List.length_cons]<;>omega
theorem acH:∀{a:List (List Int × Int)} {s:List Int} {k:Int},(∀p∈a,p.1.length<=64)->s.length<=64->∀p∈qC a s k,p.1.length<=64
 |[],s,k,_,hs,p,hp=>by simp[qC] at hp; subst hp; exact hs
 |(t,j)::r,s,k,h,hs,p,hp=>by
   unfold qC at hp;split at hp
   ·rcases aO.1 hp with rfl|hp
    ·exact h (t,j) cI
    ·exact h p (cK _ hp)
   ·rcases aO.1 hp with rfl|hp
    ·exact h _ cI
    ·exact acH (fun p hp=>h p (cK _ hp)) hs p hp
theorem af6 (N:Nat) (Es:List Ed) (M k m:Nat) (C:List Int) (cs:List Nat) (a:List (List Int × Int)) (j:Nat) (hm:∀x:Int,x∈C ↔ x∈bZ m) (hC:C.length<=64) (dQ:cs.length<=64) (ha:a.length<=899) (iZ:∀p∈a,p.1.length<=64) (hj:j<cs.length) :
  aW aq 0 PH (XR N Es M k C cs a j [])=some (.normal,XR N Es M k C cs (adS m k a cs[j]) (j+1) []):=by
 have k1:(j:Int)<cs.length:=by omega
 have hw:=dA (i:=j) (by omega);have gl:=gI cs;have g3:(gJ cs)[j]?=some (.list 1 (ints (bZ cs[j]))):=by unfold gJ; rw[List.getElem?_map,aj hj]; rfl
 have Bp:j<(gJ cs).length:=by omega
 have g4:∀h,(gJ cs)[j]'h=.list 1 (ints (bZ cs[j])):=fun h=>by
  rw[aj h] at g3;exact bj g3
 have bl:=nt cs[j];have wr:=Ja (bZ cs[j]) C (by omega) (by omega)
 have ew:((bZ cs[j]).all fun x=>decide (x∈C))=XU m cs[j]:=by
  unfold XU;congr 1;funext x;exact decide_eq_decide.2 (hm x)
 rw[ew] at wr;have ad:=acN a k (bZ cs[j]) (by omega) (fun p hp=>by have:=iZ p hp; omega) (by omega);have la:=uc a;obtain⟨b1,b2,b3,b4,b5,b6,b7,b8,b9,ba,bb⟩:=bg C;obtain⟨c1,c2,c3,c4,c5,c6,c7,c8,c9,ca,cb⟩:=bg (bZ cs[j]);unfold adS;unfold XR yV;cases q:XU m cs[j] with
 |true=>
   rw[if_pos rfl];rw[q] at wr;generalize xf (qC a (bZ cs[j]) k)=P2 at *;generalize xf a=P1 at *;generalize ints (bZ cs[j])=S1 at *;generalize ints C=C1 at *;generalize gJ cs=G1 at *;generalize fe Es=Y at *;unfold PH;simp[Kv,Ku,Ks,Kr,Kp,Ko,Kn,Km,Kl,Kk,Cy,Cx,Cw,Cu,Ct,Cr,Cq,Cp,k1,hj,hw,gl,g3,g4,Bp,wr,ad,la,b1,b2,b3,b4,b5,b6,b7,b8,b9,ba,bb,c1,c2,c3,c4,c5,c6,c7,c8,c9,ca,cb,idx,aH,dc,pl,fW,dm,fa,sQw,iQw,sQx,iQx]
 |false=>
   rw[if_neg Bool.false_ne_true];rw[q] at wr;generalize xf a=P1 at *;generalize ints (bZ cs[j])=S1 at *;generalize ints C=C1 at *;generalize gJ cs=G1 at *;generalize fe Es=Y at *;unfold PH;simp[Kv,Ku,Ks,Kr,Kp,Ko,Kn,Km,Kl,Kk,Cy,Cx,Cw,Cu,Ct,Cr,Cq,Cp,k1,hj,hw,gl,g3,g4,Bp,wr,la,b1,b2,b3,b4,b5,b6,b7,b8,b9,ba,bb,c1,c2,c3,c4,c5,c6,c7,c8,c9,ca,cb,idx,aH,dc,pl,sQw,iQw]
theorem abQ (N:Nat) (Es:List Ed) (M k m:Nat) (C:List Int) (cs:List Nat) (hm:∀x:Int,x∈C ↔ x∈bZ m) (hC:C.length<=64) (dQ:cs.length<=64):∀(n j:Nat) (a:List (List Int × Int)),j+n=cs.length->a.length+n<=899->(∀p∈a,p.1.length<=64) ->
  aW aq 0 (.loop PH) (XR N Es M k C cs a j [])=some (.exit 2,XR N Es M k C cs ((cs.drop j).foldl (adS m k) a) cs.length [(49,.bool false)])
 |0,j,a,hj,ha,iZ=>by
   obtain rfl:j=cs.length:=by omega
   rw[List.drop_length,List.foldl_nil];refine bn ?_;unfold XR yV;generalize xf a=P1 at *;generalize ints C=C1 at *;generalize gJ cs=G1 at *;generalize fe Es=Y at *;unfold PH;simp[Kv,Ku,Ks,Kr,Kp,Ko,Kn,Km,Kl,Kk,Cy,Cx,Cw,Cu,Ct,Cr,Cq,Cp]
 |n+1,j,a,hj,ha,iZ=>by
   have bE:j<cs.length:=by omega
   rw[List.drop_eq_getElem_cons bE,dV]
   have hl:(adS m k a cs[j]).length<=a.length+1:=by
    unfold adS;split
    ·exact Wf _ _ _
    ·omega
   refine (aS (af6 N Es M k m C cs a j hm hC dQ (by omega) iZ bE)).trans (abQ N Es M k m C cs hm hC dQ n (j+1) _ (by omega) (by omega) ?_);unfold adS;split
   ·exact acH iZ (nt _)
   ·exact iZ
theorem Wg (m:Nat) (k:Int):∀(cs:List Nat) (a:List (List Int × Int)),cs.foldl (adS m k) a=((cs.filter (XU m)).map bZ).foldl (fun a s=>qC a s k) a
 |[],a=>rfl
 |R::r,a=>by
   rw[dV,Wg m k r,List.filter_cons];unfold adS;by_cases h:XU m R=true
   ·rw[if_pos h,if_pos h]; rfl
   ·rw[if_neg h,if_neg h]
/- ref18.Cores, as a whole. -/
def XQ (N:Nat) (Es:List Ed) (M k:Nat) (a:List (List Int × Int)) (J:Env):St:=⟨(1,.ptr 0 0)::(4,.int .i64 M)::(6,.own 3 (xf a))::(7,.int .i64 k)::J,yV N Es⟩
theorem aiJ {N:Nat} {Es:List Ed} (hG:uQ (N:Int) Es) {L C:List Int} {k:Nat} (hL:rG (eK N Es) N L) (hm:∀a:Nat,(a:Int)∈C ↔ (EZ L k).testBit a=true) {cs:List Nat} (h:YW (eK N (Es.filter (yT C))) (jq (N:Int)) cs):FE (eK N Es) (EZ L k) (EZ L k) (cs.filter (XU (EZ L k))):=by
 have hN:N<=64:=by have:=hG.1.2; omega
 have w:EZ L k<18446744073709551616:=Mw k L 0 0 (by have:=hL.1; omega) (by omega);have gF:=Mt hG (yT C);have A1:=(lV hG).2.2;have A2:=(lV gF).2.2
 have hB:∀a b:Nat,((eK N (Es.filter (yT C))).getD a 0).testBit b=true ↔ ((eK N Es).getD a 0).testBit b=true/\(EZ L k).testBit a=true/\(EZ L k).testBit b=true:=fun a b=>by
  rw[A1,A2,eE,eE,decide_eq_true_eq,decide_eq_true_eq,decide_eq_true_eq,decide_eq_true_eq,fV,fV,<-hm,<-hm];unfold yT;simp only[Bool.and_eq_true,decide_eq_true_eq];constructor
  ·rintro (⟨h1,h2,h3⟩|⟨h1,h2,h3⟩)
   ·exact⟨.inl h1,h2,h3⟩
   ·exact⟨.inr h1,h3,h2⟩
  ·rintro⟨h1|h1,h2,h3⟩
   ·exact .inl ⟨h1,h2,h3⟩
   ·exact .inr ⟨h1,h3,h2⟩
 have rm:=GX hN
 have g:=ajg w (tH gF).1 hB h (Jy _) (fun x hx=>by have:=(rm x).1 hx; omega) (fun i j hi xA=>by
  have:=(tH gF).2.2 i j xA;exact (rm _).2 ⟨by omega,by omega⟩)
 have e:ze (jq (N:Int)) &&& EZ L k=EZ L k:=by
  apply Nat.eq_of_testBit_eq;intro j;rw[Nat.testBit_and,pF fun x hx=>((rm x).1 hx).1];cases q:(EZ L k).testBit j with
  |false=>rw[Bool.and_false]
  |true=>
    have:=(EY.1 q).1;rw[decide_eq_true ((rm _).2 ⟨by omega,by have:=hL.1; omega⟩)];rfl
 rw[e] at g;exact g
theorem af5 {N:Nat} {Es:List Ed} (hG:uQ (N:Int) Es) (hE:Es.length<1000000) {L:List Int} (hL:rG (eK N Es) N L) (M k:Nat) (hk:k<=M) (hM:M<=12) (a:List (List Int × Int)) (ha:a.length<=64*k) (iZ:∀p∈a,p.1.length<=64) (hle:∀p∈a,p.2<=(k:Int)) :
  ∃ l,(FE (eK N Es) (EZ L k) (EZ L k) l/\l.length<=64)/\aW aq 0 UI (XQ N Es M k a [])=some (.normal,XQ N Es M (k+1) (pZ k a (l.map bZ)) []):=by
 have hN:N<=64:=by have:=hG.1.2; omega
 obtain⟨C,c1,c2,cr⟩:=Xa hG hE k;have hm:=agS hL c1;have w:EZ L k<18446744073709551616:=Mw k L 0 0 (by have:=hL.1; omega) (by omega)
 have hm2:∀x:Int,x∈C ↔ x∈bZ (EZ L k):=fun x=>by
  constructor
  ·intro hx;obtain⟨j,rfl,_⟩:=(c1 x).1 hx;exact (iO w).2 ((hm j).1 hx)
  ·intro hx;obtain⟨j,rfl,_,hj⟩:=gk.1 hx;exact (hm j).2 hj
 have ir:=ad5 hG hE C (by omega);have fl:(Es.filter (yT C)).length<=Es.length:=Cg _ _;obtain⟨cs,⟨d1,d2⟩,pr⟩:=acR (Mt hG (yT C)) (by omega);refine⟨cs.filter (XU (EZ L k)),⟨aiJ hG hL hm d1,by have:=Cg (XU (EZ L k)) cs; omega⟩,?_⟩;have lp:=abQ N Es M k (EZ L k) C cs hm2 (by omega) d2 cs.length 0 a (by omega) (by omega) iZ;rw[List.drop_zero,Wg,(Nn k _ a hle).1] at lp;have hw:=dA (i:=k) (by omega);have k1:(k:Int)<=M:=by omega
 have gl:=gI cs;obtain⟨b1,b2,b3,b4,b5,b6,b7,b8,b9,ba,bb⟩:=bg C;unfold XR yV at lp;unfold XQ yV;simp only[fH] at lp;clear hm2 c1 hm d1;generalize xf (pZ k a ((cs.filter (XU (EZ L k))).map bZ))=P2 at *;generalize xf a=P1 at *;generalize ints C=C1 at *;generalize gJ cs=G1 at *;generalize fe (Es.filter (yT C))=Y2 at *;generalize fe Es=Y at *;unfold UI;simp[Kv,Ku,Ks,Kr,Kp,Ko,Kn,Km,Kl,Kk,Cy,Cx,Cw,Cu,Ct,Cr,Cq,Cp,k1,hw,cr,ir,pr,lp,gl,b1,b2,b3,b4,b5,b6,b7,b8,b9,ba,bb,aH,dc,pl,fW,dm,sQt,iQt,sQu,iQu,sQv,iQv]
theorem abP {N:Nat} {Es:List Ed} (hG:uQ (N:Int) Es) (hE:Es.length<1000000) {L:List Int} (hL:rG (eK N Es) N L) (M:Nat) (hM:M<=12):∀(n k:Nat) (a:List (List Int × Int)),k+n=M+1->a.length<=64*k->(∀p∈a,p.1.length<=64)->(∀p∈a,p.2<=(k:Int)) ->
  ∃ b,(YR (eK N Es) L k n a b/\b.length<=64*(M+1)/\∀ p∈b,p.1.length<=64)/\aW aq 0 (.loop UI) (XQ N Es M k a [])=some (.exit 0,XQ N Es M (M+1) b [(26,.bool false)])
 |0,k,a,hk,ha,iZ,hle=>by
   obtain rfl:k=M+1:=by omega
   refine⟨a,⟨.nil _ _,ha,iZ⟩,bn ?_⟩;have k1:¬(M:Int)+1<=M:=by omega
   unfold XQ yV;generalize xf a=P1 at *;generalize fe Es=Y at *;unfold UI;simp[Kv,Ku,Ks,Kr,Kp,Ko,Kn,Km,Kl,Kk,Cy,Cx,Cw,Cu,Ct,Cr,Cq,Cp,k1]
 |n+1,k,a,hk,ha,iZ,hle=>by
   obtain⟨l,⟨l1,l3⟩,l2⟩:=af5 hG hE hL M k (by omega) hM a ha iZ hle;have h1:=LO k l a;obtain⟨a1,a2⟩:=Nn k (l.map bZ) a hle
   have Wr:∀(l:List Nat) (a:List (List Int × Int)),(∀p∈a,p.1.length<=64)->∀p∈pZ k a (l.map bZ),p.1.length<=64:=by
    intro l
    induction l with
    |nil=>exact fun a ha=>ha
    |cons R r ih2=>exact fun a ha=>ih2 (iQ a (bZ R) k) fun p hp=>(zk hp).elim (fun e=>by rw[e]; exact nt R) (ha p)
   obtain⟨b,b1,b3⟩:=abP hG hE hL M hM n (k+1) (pZ k a (l.map bZ)) (by omega) (by omega) (Wr l a iZ) (fun p hp=>by have:=a2 p hp; omega);exact⟨b,⟨.cons k n a b l l1 b1.1,b1.2⟩,(aS l2).trans b3⟩
theorem QZ {N:Nat} {Es:List Ed} (hG:uQ (N:Int) Es) (hE:Es.length<1000000) (h11:N<=11) :
  ∃ L M b,(rG (eK N Es) N L/\Wv L=((M:Nat):Int)/\YR (eK N Es) L 0 (M+1) [] b/\b.length<=800)/\bJ aq nQd [.agg [.int .i64 N,.list 2 (fe Es)]] []=some (.dR [.list 3 ((yW (uX (b.map fun p=>((p.2,0,p.1):Pt)))).map bw),.int .i64 0],[]):=by
 obtain⟨L,hL,dr⟩:=aef hG hE;have bd:=U6 hL (tH hG).2.2;obtain⟨M,hM,_,hM2⟩:=agP hL
 have hMN:M<=11:=by
  obtain⟨d1,d2,d3⟩:=Fu L 0;change Wv L=0\/Wv L∈L at d3;rcases d3 with d3|d3
  ·omega
  ·have:=bd _ d3; omega
 rw[hM] at dr;obtain⟨b,⟨b1,b2,b3⟩,lp⟩:=abP hG hE hL M (by omega) (M+1) 0 [] (by omega) (yM _) (fun p hp=>absurd hp uR) (fun p hp=>absurd hp uR);refine⟨L,M,b,⟨hL,hM,b1,by omega⟩,?_⟩
 have ar:=ajL (b.map fun p=>((p.2,0,p.1):Pt)) (by rw[List.length_map]; omega) (fun p hp=>by
  obtain⟨q,hq,rfl⟩:=List.mem_map.1 hp;exact b3 q hq)
 have eq:(b.map fun p=>((p.2,0,p.1):Pt)).map bw=xf b:=by rw[List.map_map]; rfl
 rw[eq] at ar;have lb:=uc b;have tkb:(xf b).take b.length=xf b:=List.take_of_length_le (by omega);obtain⟨g1,g2,g3,g4,g5,g6,g7,g8⟩:=jf (yW (uX (b.map fun p=>((p.2,0,p.1):Pt))));rw[dZ sQd (Nat.le_of_ble_eq_true rfl)];unfold XQ yV at lp;rw[show xf []=[] from rfl] at lp;have e1:((M+1:Nat):Int)=(M:Int)+1:=by omega
 rw[e1] at lp;simp only[fH] at lp;clear b1 b3;generalize (yW (uX (b.map fun p=>((p.2,0,p.1):Pt)))).map bw=R1 at *;generalize xf b=P1 at *;generalize fe Es=Y at *;unfold qQd cQd;simp[Kv,Ku,Ks,Kr,Kp,Ko,Kn,Km,Kl,Kk,Cy,Cx,Cw,Cu,Ct,Cr,Cq,Cp,dr,lp,ar,lb,tkb,g1,g2,g3,g4,g5,g6,g7,g8,aH,bL,bC,eR,fW,dm,dc,pl,sQs,iQs,sQy,iQy]
/- HierarchyNests: the example of chapter 18, and the graph without nodes. -/
def isBH (b:Bool):Option (AV × Heap)->Bool
 |some (.bool c,[])=>b == c
 |_=>false
theorem aiP {b:Bool} {r:Option (AV × Heap)} (h:isBH b r=true):r=some (.bool b,[]):=by
 unfold isBH at h;split at h
 ·rw[eq_of_beq h]
 ·cases h
theorem amy:isBH true (mz aq 2000 nQb [] [])=true:=by kernel_rfl
theorem aw18:bJ aq nQb [] []=some (.bool true,[]):=iv.2 ⟨2000,aiP amy⟩
def isT0:Option (AV × Heap)->Bool
 |some (.dR [.list 3 [],.int .i64 0],[])=>true
 |_=>false
theorem abS {r:Option (AV × Heap)} (h:isT0 r=true):r=some (.dR [.list 3 [],.int .i64 0],[]):=by
 unfold isT0 at h;split at h
 ·rfl
 ·cases h
theorem anO:isT0 (mz aq 300 nQr [.agg [.int .i64 0,.list 2 []]] [])=true:=by kernel_rfl
theorem Yw:bJ aq nQr [.agg [.int .i64 0,.list 2 []]] []=some (.dR [.list 3 [],.int .i64 0],[]):=iv.2 ⟨300,abS anO⟩
/- Both sides find the same parts of the cores. -/
theorem amx:isT0 (mz aq 300 nQd [.agg [.int .i64 0,.list 2 []]] [])=true:=by kernel_rfl
theorem Th:bJ aq nQd [.agg [.int .i64 0,.list 2 []]] []=some (.dR [.list 3 [],.int .i64 0],[]):=iv.2 ⟨300,abS amx⟩
theorem MK {N:Nat} {Es:List Ed} (hG:uQ (N:Int) Es) (hE:Es.length<1000000) (h11:N<=11) :
  ∃ P:List Pt,(P.length<=900/\(∀p∈P,p.2.2.length<=64)/\∃ L:List Int,L.length=N/\HOK (eK N Es) N L P)/\bJ aq nQr [.agg [.int .i64 N,.list 2 (fe Es)]] []=some (.dR [.list 3 (P.map bw),.int .i64 0],[])/\bJ aq nQd [.agg [.int .i64 N,.list 2 (fe Es)]] []=some (.dR [.list 3 (P.map bw),.int .i64 0],[]):=by
 by_cases h0:N=0
 ·subst h0
  have e:Es=[]:=by
   cases Es with
   |nil=>rfl
   |cons x r=>
     have:=hG.2.2 x cI;omega
  subst e;exact⟨[],⟨by simp,fun p hp=>(by cases hp),[],rfl,⟨by simp,fun i hi=>(by simp at hi),fun i k _ hk=>(by simp at hk),fun i hi=>(by simp at hi),fun v hv=>by omega⟩⟩,Yw,Th⟩
 ·obtain⟨L,b,M,⟨h1,h2,h3,h4,h5,h6⟩,h7⟩:=Yx hG hE (by omega) (by omega);obtain⟨L',M',b',⟨k1,k2,k3,k4⟩,k5⟩:=QZ hG hE h11;obtain rfl:=amh k1 h1
  have eM:M'=M:=by
   obtain⟨d1,d2,d3⟩:=Fu L' 0;change ∀x∈L',x<=Wv L' at d2;change Wv L'=0\/Wv L'∈L' at d3;have a:=d2 _ h6;rcases d3 with d3|d3
   ·omega
   ·have:=h5 _ d3; omega
  subst eM;obtain rfl:=amp h4 k3;have ha:=ahf (tH hG).1 ⟨h2,fun i hi=>agr b i hi,fun i k wS hk=>ags h3 wS hk⟩ h3;rw[ha] at k5;refine⟨ik b,⟨h2.len,fun p hp=>?_,L',h1.1,h2⟩,h7,k5⟩;obtain⟨i,hi,rfl⟩:=List.getElem_of_mem hp;obtain⟨j,R,_,_,_,e⟩:=h2.lv i hi
  have es:(ik b)[i].2.2=bM (ik b) i:=by
   unfold bM;rw[List.getD_eq_getElem?_getD,aj hi]; rfl
  rw[es,e];exact nt R
end Go.BmP
