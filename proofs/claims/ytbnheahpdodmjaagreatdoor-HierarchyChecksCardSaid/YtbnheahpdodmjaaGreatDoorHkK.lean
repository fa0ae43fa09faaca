/- ref18.Cores. -/
import Derived.Test.YtbnheahpdodmjaaGreatDoorHkH
set_option linter.unusedSimpArgs false
set_option linter.unusedVariables false
set_option maxRecDepth 100000
set_option maxHeartbeats 8000000
open Bool renaming or_eq_true → dT
open List renaming foldl_cons → dM, getElem?_eq_getElem → ai, length_filter_le → B4, mem_cons → aG, mem_cons_of_mem → cH, mem_cons_self → cF, mem_filter → fK, not_mem_nil → tW
open Nat renaming zero_le → jN
open Option.some renaming inj → bm
namespace Go.BmP
open Go.Am Go.Bm
theorem Lw {N:Nat} {Es:List Ed} (hG:tV (N:Int) Es) (f:Ed->Bool):tV (N:Int) (Es.filter f):=
 ⟨hG.1,List.Pairwise.sublist List.filter_sublist hG.2.1,fun e he=>hG.2.2 e (fK.1 he).1⟩
theorem afh {A:List Nat} {N k:Nat} {L C:List Int} (hL:sG A N L) (hC:∀x:Int,x∈C ↔ ∃j:Nat,x=j/\UR A (2 ^ N-1) k j) (a:Nat):(a:Int)∈C ↔ (En L k).testBit a=true:=by
 rw[hC,AR];constructor
 ·rintro⟨j,e,h⟩;obtain rfl:a=j:=by omega
  have hN:=Qh h;obtain⟨x,e2,q⟩:=hL.2 a hN;have:=(q k).2 (.inr h);exact⟨by have:=hL.1; omega,by omega⟩
 ·rintro⟨h1,h2⟩;have hN:a<N:=by have:=hL.1; omega
  obtain⟨x,e2,q⟩:=hL.2 a hN;refine⟨a,rfl,?_⟩;rcases (q k).1 (by omega) with r|r
  ·subst r;exact⟨2 ^ N-1,fun _ h=>h,by rw[Nat.testBit_two_pow_sub_one]; exact decide_eq_true hN,fun j _=>jN _⟩
  ·exact r
def Wq (N:Nat) (Es:List Ed) (M k:Nat) (C:List Int) (cs:List Nat) (a:List (List Int × Int)) (j:Nat) (J:Env):St:=⟨(1,.ptr 0 0)::(4,.int .i64 M)::(6,.own 3 (wB a))::(7,.int .i64 k)::(8,.list 1 (ints C))::(46,.list 1 (gk cs))::(47,.int .i64 cs.length)::(48,.int .i64 j)::J,uC N Es⟩
def adS (m:Nat) (k:Int) (a:List (List Int × Int)) (R:Nat):List (List Int × Int):=if Wt m R=true then qa a (bW R) k else a
theorem UO:∀(a:List (List Int × Int)) (s:List Int) (k:Int),(qa a s k).length<=a.length+1
 |[],s,k=>by simp[qa]
 |(t,j)::r,s,k=>by
   have:=UO r s k;unfold qa;split<;>simp only[List.length_cons]<;>omega
theorem abm:∀{a:List (List Int × Int)} {s:List Int} {k:Int},(∀p∈a,p.1.length<=64)->s.length<=64->∀p∈qa a s k,p.1.length<=64
 |[],s,k,_,hs,p,hp=>by simp[qa] at hp; subst hp; exact hs
 |(t,j)::r,s,k,h,hs,p,hp=>by
   unfold qa at hp;split at hp
   ·rcases aG.1 hp with rfl|hp
    ·exact h (t,j) cF
    ·exact h p (cH _ hp)
   ·rcases aG.1 hp with rfl|hp
    ·exact h _ cF
    ·exact abm (fun p hp=>h p (cH _ hp)) hs p hp
theorem aey (N:Nat) (Es:List Ed) (M k m:Nat) (C:List Int) (cs:List Nat) (a:List (List Int × Int)) (j:Nat) (hm:∀x:Int,x∈C ↔ x∈bW m) (hC:C.length<=64) (dI:cs.length<=64) (ha:a.length<=899) (iR:∀p∈a,p.1.length<=64) (hj:j<cs.length) :
  aY an 0 Ot (Wq N Es M k C cs a j [])=some (.normal,Wq N Es M k C cs (adS m k a cs[j]) (j+1) []):=by
 have k1:(j:Int)<cs.length:=by omega
 have hw:=dO (i:=j) (by omega);have gl:=gj cs;have g3:(gk cs)[j]?=some (.list 1 (ints (bW cs[j]))):=by unfold gk; rw[List.getElem?_map,ai hj]; rfl
 have A4:j<(gk cs).length:=by omega
 have g4:∀h,(gk cs)[j]'h=.list 1 (ints (bW cs[j])):=fun h=>by
  rw[ai h] at g3;exact bm g3
 have bl:=mY cs[j];have wr:=IX (bW cs[j]) C (by omega) (by omega)
 have ew:((bW cs[j]).all fun x=>decide (x∈C))=Wt m cs[j]:=by
  unfold Wt;congr 1;funext x;exact decide_eq_decide.2 (hm x)
 rw[ew] at wr;have ad:=abu a k (bW cs[j]) (by omega) (fun p hp=>by have:=iR p hp; omega) (by omega);have la:=tj a;obtain⟨b1,b2,b3,b4,b5,b6,b7,b8,b9,ba,bb⟩:=bj C;obtain⟨c1,c2,c3,c4,c5,c6,c7,c8,c9,ca,cb⟩:=bj (bW cs[j]);unfold adS;unfold Wq uC;cases q:Wt m cs[j] with
 |true=>
   rw[if_pos rfl];rw[q] at wr;generalize wB (qa a (bW cs[j]) k)=P2 at *;generalize wB a=P1 at *;generalize ints (bW cs[j])=S1 at *;generalize ints C=C1 at *;generalize gk cs=G1 at *;generalize dA Es=Y at *;unfold Ot;simp[JL,JK,JJ,JI,JH,JG,JF,JE,JD,JC,Cj,Ci,Ch,Cg,Cf,Ce,Cd,Cc,k1,hj,hw,gl,g3,g4,A4,wr,ad,la,b1,b2,b3,b4,b5,b6,b7,b8,b9,ba,bb,c1,c2,c3,c4,c5,c6,c7,c8,c9,ca,cb,idx,aJ,dq,pl,jR,eZ,eK,sQq,iQq,sQr,iQr]
 |false=>
   rw[if_neg Bool.false_ne_true];rw[q] at wr;generalize wB a=P1 at *;generalize ints (bW cs[j])=S1 at *;generalize ints C=C1 at *;generalize gk cs=G1 at *;generalize dA Es=Y at *;unfold Ot;simp[JL,JK,JJ,JI,JH,JG,JF,JE,JD,JC,Cj,Ci,Ch,Cg,Cf,Ce,Cd,Cc,k1,hj,hw,gl,g3,g4,A4,wr,la,b1,b2,b3,b4,b5,b6,b7,b8,b9,ba,bb,c1,c2,c3,c4,c5,c6,c7,c8,c9,ca,cb,idx,aJ,dq,pl,sQq,iQq]
theorem aaD (N:Nat) (Es:List Ed) (M k m:Nat) (C:List Int) (cs:List Nat) (hm:∀x:Int,x∈C ↔ x∈bW m) (hC:C.length<=64) (dI:cs.length<=64):∀(n j:Nat) (a:List (List Int × Int)),j+n=cs.length->a.length+n<=899->(∀p∈a,p.1.length<=64) ->
  aY an 0 (.loop Ot) (Wq N Es M k C cs a j [])=some (.exit 2,Wq N Es M k C cs ((cs.drop j).foldl (adS m k) a) cs.length [(49,.bool false)])
 |0,j,a,hj,ha,iR=>by
   obtain rfl:j=cs.length:=by omega
   rw[List.drop_length,List.foldl_nil];refine bt ?_;unfold Wq uC;generalize wB a=P1 at *;generalize ints C=C1 at *;generalize gk cs=G1 at *;generalize dA Es=Y at *;unfold Ot;simp[JL,JK,JJ,JI,JH,JG,JF,JE,JD,JC,Cj,Ci,Ch,Cg,Cf,Ce,Cd,Cc]
 |n+1,j,a,hj,ha,iR=>by
   have bF:j<cs.length:=by omega
   rw[List.drop_eq_getElem_cons bF,dM]
   have hl:(adS m k a cs[j]).length<=a.length+1:=by
    unfold adS;split
    ·exact UO _ _ _
    ·omega
   refine (aV (aey N Es M k m C cs a j hm hC dI (by omega) iR bF)).trans (aaD N Es M k m C cs hm hC dI n (j+1) _ (by omega) (by omega) ?_);unfold adS;split
   ·exact abm iR (mY _)
   ·exact iR
theorem UP (m:Nat) (k:Int):∀(cs:List Nat) (a:List (List Int × Int)),cs.foldl (adS m k) a=((cs.filter (Wt m)).map bW).foldl (fun a s=>qa a s k) a
 |[],a=>rfl
 |R::r,a=>by
   rw[dM,UP m k r,List.filter_cons];unfold adS;by_cases h:Wt m R=true
   ·rw[if_pos h,if_pos h]; rfl
   ·rw[if_neg h,if_neg h]
/- ref18.Cores, as a whole. -/
def Wp (N:Nat) (Es:List Ed) (M k:Nat) (a:List (List Int × Int)) (J:Env):St:=⟨(1,.ptr 0 0)::(4,.int .i64 M)::(6,.own 3 (wB a))::(7,.int .i64 k)::J,uC N Es⟩
theorem ag8 {N:Nat} {Es:List Ed} (hG:tV (N:Int) Es) {L C:List Int} {k:Nat} (hL:sG (eB N Es) N L) (hm:∀a:Nat,(a:Int)∈C ↔ (En L k).testBit a=true) {cs:List Nat} (h:Xx (eB N (Es.filter (yw C))) (jg (N:Int)) cs):E4 (eB N Es) (En L k) (En L k) (cs.filter (Wt (En L k))):=by
 have hN:N<=64:=by have:=hG.1.2; omega
 have w:En L k<18446744073709551616:=LB k L 0 0 (by have:=hL.1; omega) (by omega);have gF:=Lw hG (yw C);have A1:=(lM hG).2.2;have A2:=(lM gF).2.2
 have hB:∀a b:Nat,((eB N (Es.filter (yw C))).getD a 0).testBit b=true ↔ ((eB N Es).getD a 0).testBit b=true/\(En L k).testBit a=true/\(En L k).testBit b=true:=fun a b=>by
  rw[A1,A2,dT,dT,decide_eq_true_eq,decide_eq_true_eq,decide_eq_true_eq,decide_eq_true_eq,fK,fK,<-hm,<-hm];unfold yw;simp only[Bool.and_eq_true,decide_eq_true_eq];constructor
  ·rintro (⟨h1,h2,h3⟩|⟨h1,h2,h3⟩)
   ·exact⟨.inl h1,h2,h3⟩
   ·exact⟨.inr h1,h3,h2⟩
  ·rintro⟨h1|h1,h2,h3⟩
   ·exact .inl ⟨h1,h2,h3⟩
   ·exact .inr ⟨h1,h3,h2⟩
 have rm:=Gk hN
 have g:=ahK w (s7 gF).1 hB h (Ji _) (fun x hx=>by have:=(rm x).1 hx; omega) (fun i j hi wR=>by
  have:=(s7 gF).2.2 i j wR;exact (rm _).2 ⟨by omega,by omega⟩)
 have e:yF (jg (N:Int)) &&& En L k=En L k:=by
  apply Nat.eq_of_testBit_eq;intro j;rw[Nat.testBit_and,oT fun x hx=>((rm x).1 hx).1];cases q:(En L k).testBit j with
  |false=>rw[Bool.and_false]
  |true=>
    have:=(AR.1 q).1;rw[decide_eq_true ((rm _).2 ⟨by omega,by have:=hL.1; omega⟩)];rfl
 rw[e] at g;exact g
theorem aex {N:Nat} {Es:List Ed} (hG:tV (N:Int) Es) (hE:Es.length<1000000) {L:List Int} (hL:sG (eB N Es) N L) (M k:Nat) (hk:k<=M) (hM:M<=12) (a:List (List Int × Int)) (ha:a.length<=64*k) (iR:∀p∈a,p.1.length<=64) (hle:∀p∈a,p.2<=(k:Int)) :
  ∃ l,(E4 (eB N Es) (En L k) (En L k) l/\l.length<=64)/\aY an 0 Th (Wp N Es M k a [])=some (.normal,Wp N Es M (k+1) (pk k a (l.map bW)) []):=by
 have hN:N<=64:=by have:=hG.1.2; omega
 obtain⟨C,c1,c2,cr⟩:=VO hG hE k;have hm:=afh hL c1;have w:En L k<18446744073709551616:=LB k L 0 0 (by have:=hL.1; omega) (by omega)
 have hm2:∀x:Int,x∈C ↔ x∈bW (En L k):=fun x=>by
  constructor
  ·intro hx;obtain⟨j,rfl,_⟩:=(c1 x).1 hx;exact (iF w).2 ((hm j).1 hx)
  ·intro hx;obtain⟨j,rfl,_,hj⟩:=fG.1 hx;exact (hm j).2 hj
 have ir:=acA hG hE C (by omega);have fl:(Es.filter (yw C)).length<=Es.length:=B4 _ _;obtain⟨cs,⟨d1,d2⟩,pr⟩:=abw (Lw hG (yw C)) (by omega);refine⟨cs.filter (Wt (En L k)),⟨ag8 hG hL hm d1,by have:=B4 (Wt (En L k)) cs; omega⟩,?_⟩;have lp:=aaD N Es M k (En L k) C cs hm2 (by omega) d2 cs.length 0 a (by omega) (by omega) iR;rw[List.drop_zero,UP,(Ms k _ a hle).1] at lp;have hw:=dO (i:=k) (by omega);have k1:(k:Int)<=M:=by omega
 have gl:=gj cs;obtain⟨b1,b2,b3,b4,b5,b6,b7,b8,b9,ba,bb⟩:=bj C;unfold Wq uC at lp;unfold Wp uC;simp only[fU] at lp;clear hm2 c1 hm d1;generalize wB (pk k a ((cs.filter (Wt (En L k))).map bW))=P2 at *;generalize wB a=P1 at *;generalize ints C=C1 at *;generalize gk cs=G1 at *;generalize dA (Es.filter (yw C))=Y2 at *;generalize dA Es=Y at *;unfold Th;simp[JL,JK,JJ,JI,JH,JG,JF,JE,JD,JC,Cj,Ci,Ch,Cg,Cf,Ce,Cd,Cc,k1,hw,cr,ir,pr,lp,gl,b1,b2,b3,b4,b5,b6,b7,b8,b9,ba,bb,aJ,dq,pl,jR,eZ,sQn,iQn,sQo,iQo,sQp,iQp]
theorem aaC {N:Nat} {Es:List Ed} (hG:tV (N:Int) Es) (hE:Es.length<1000000) {L:List Int} (hL:sG (eB N Es) N L) (M:Nat) (hM:M<=12):∀(n k:Nat) (a:List (List Int × Int)),k+n=M+1->a.length<=64*k->(∀p∈a,p.1.length<=64)->(∀p∈a,p.2<=(k:Int)) ->
  ∃ b,(Xs (eB N Es) L k n a b/\b.length<=64*(M+1)/\∀ p∈b,p.1.length<=64)/\aY an 0 (.loop Th) (Wp N Es M k a [])=some (.exit 0,Wp N Es M (M+1) b [(26,.bool false)])
 |0,k,a,hk,ha,iR,hle=>by
   obtain rfl:k=M+1:=by omega
   refine⟨a,⟨.nil _ _,ha,iR⟩,bt ?_⟩;have k1:¬(M:Int)+1<=M:=by omega
   unfold Wp uC;generalize wB a=P1 at *;generalize dA Es=Y at *;unfold Th;simp[JL,JK,JJ,JI,JH,JG,JF,JE,JD,JC,Cj,Ci,Ch,Cg,Cf,Ce,Cd,Cc,k1]
 |n+1,k,a,hk,ha,iR,hle=>by
   obtain⟨l,⟨l1,l3⟩,l2⟩:=aex hG hE hL M k (by omega) hM a ha iR hle;have h1:=KW k l a;obtain⟨a1,a2⟩:=Ms k (l.map bW) a hle
   have U6:∀(l:List Nat) (a:List (List Int × Int)),(∀p∈a,p.1.length<=64)->∀p∈pk k a (l.map bW),p.1.length<=64:=by
    intro l
    induction l with
    |nil=>exact fun a ha=>ha
    |cons R r ih2=>exact fun a ha=>ih2 (iH a (bW R) k) fun p hp=>(yM hp).elim (fun e=>by rw[e]; exact mY R) (ha p)
   obtain⟨b,b1,b3⟩:=aaC hG hE hL M hM n (k+1) (pk k a (l.map bW)) (by omega) (by omega) (U6 l a iR) (fun p hp=>by have:=a2 p hp; omega);exact⟨b,⟨.cons k n a b l l1 b1.1,b1.2⟩,(aV l2).trans b3⟩
theorem PK {N:Nat} {Es:List Ed} (hG:tV (N:Int) Es) (hE:Es.length<1000000) (h11:N<=11) :
  ∃ L M b,(sG (eB N Es) N L/\Vc L=((M:Nat):Int)/\Xs (eB N Es) L 0 (M+1) [] b/\b.length<=800)/\bu an Of [.agg [.int .i64 N,.list 2 (dA Es)]] []=some (.dt [.list 3 ((yA (uc (b.map fun p=>((p.2,0,p.1):Pt)))).map bH),.int .i64 0],[]):=by
 obtain⟨L,hL,dr⟩:=acJ hG hE;have bd:=TC hL (s7 hG).2.2;obtain⟨M,hM,_,hM2⟩:=afe hL
 have hMN:M<=11:=by
  obtain⟨d1,d2,d3⟩:=ES L 0;change Vc L=0\/Vc L∈L at d3;rcases d3 with d3|d3
  ·omega
  ·have:=bd _ d3; omega
 rw[hM] at dr;obtain⟨b,⟨b1,b2,b3⟩,lp⟩:=aaC hG hE hL M (by omega) (M+1) 0 [] (by omega) (jN _) (fun p hp=>absurd hp tW) (fun p hp=>absurd hp tW);refine⟨L,M,b,⟨hL,hM,b1,by omega⟩,?_⟩
 have ar:=aif (b.map fun p=>((p.2,0,p.1):Pt)) (by rw[List.length_map]; omega) (fun p hp=>by
  obtain⟨q,hq,rfl⟩:=List.mem_map.1 hp;exact b3 q hq)
 have eq:(b.map fun p=>((p.2,0,p.1):Pt)).map bH=wB b:=by rw[List.map_map]; rfl
 rw[eq] at ar;have lb:=tj b;have tkb:(wB b).take b.length=wB b:=List.take_of_length_le (by omega);obtain⟨g1,g2,g3,g4,g5,g6,g7,g8⟩:=gU (yA (uc (b.map fun p=>((p.2,0,p.1):Pt))));rw[eO sQe (Nat.le_of_ble_eq_true rfl)];unfold Wp uC at lp;rw[show wB []=[] from rfl] at lp;have e1:((M+1:Nat):Int)=(M:Int)+1:=by omega
 rw[e1] at lp;simp only[fU] at lp;clear b1 b3;generalize (yA (uc (b.map fun p=>((p.2,0,p.1):Pt)))).map bH=R1 at *;generalize wB b=P1 at *;generalize dA Es=Y at *;unfold qQe cQe;simp[JL,JK,JJ,JI,JH,JG,JF,JE,JD,JC,Cj,Ci,Ch,Cg,Cf,Ce,Cd,Cc,dr,lp,ar,lb,tkb,g1,g2,g3,g4,g5,g6,g7,g8,aJ,bM,bI,mM,jR,eZ,dq,pl,sQm,iQm,sQs,iQs]
/- HierarchyNests: the example of chapter 18, and the graph without nodes. -/
def isBH (b:Bool):Option (AV × Heap)->Bool
 |some (.bool c,[])=>b == c
 |_=>false
theorem ahc {b:Bool} {r:Option (AV × Heap)} (h:isBH b r=true):r=some (.bool b,[]):=by
 unfold isBH at h;split at h
 ·rw[eq_of_beq h]
 ·cases h
theorem akX:isBH true (mj an 2000 nQb [] [])=true:=by kernel_rfl
theorem Xl:bu an nQb [] []=some (.bool true,[]):=ia.2 ⟨2000,ahc akX⟩
def isT0:Option (AV × Heap)->Bool
 |some (.dt [.list 3 [],.int .i64 0],[])=>true
 |_=>false
theorem aaE {r:Option (AV × Heap)} (h:isT0 r=true):r=some (.dt [.list 3 [],.int .i64 0],[]):=by
 unfold isT0 at h;split at h
 ·rfl
 ·cases h
theorem amx:isT0 (mj an 300 Oe [.agg [.int .i64 0,.list 2 []]] [])=true:=by kernel_rfl
theorem W4:bu an Oe [.agg [.int .i64 0,.list 2 []]] []=some (.dt [.list 3 [],.int .i64 0],[]):=ia.2 ⟨300,aaE amx⟩
/- Both sides find the same parts of the cores. -/
theorem akW:isT0 (mj an 300 Of [.agg [.int .i64 0,.list 2 []]] [])=true:=by kernel_rfl
theorem Rz:bu an Of [.agg [.int .i64 0,.list 2 []]] []=some (.dt [.list 3 [],.int .i64 0],[]):=ia.2 ⟨300,aaE akW⟩
theorem W6 {N:Nat} {Es:List Ed} (hG:tV (N:Int) Es) (hE:Es.length<1000000) (h11:N<=11) :
  ∃ P:List Pt,(P.length<=900/\(∀p∈P,p.2.2.length<=64)/\∃ L:List Int,L.length=N/\HOK (eB N Es) N L P)/\bu an Oe [.agg [.int .i64 N,.list 2 (dA Es)]] []=some (.dt [.list 3 (P.map bH),.int .i64 0],[])/\bu an Of [.agg [.int .i64 N,.list 2 (dA Es)]] []=some (.dt [.list 3 (P.map bH),.int .i64 0],[]):=by
 by_cases h0:N=0
 ·subst h0
  have e:Es=[]:=by
   cases Es with
   |nil=>rfl
   |cons x r=>
     have:=hG.2.2 x cF;omega
  subst e;exact⟨[],⟨by simp,fun p hp=>(by cases hp),[],rfl,⟨by simp,fun i hi=>(by simp at hi),fun i k _ hk=>(by simp at hk),fun i hi=>(by simp at hi),fun v hv=>by omega⟩⟩,W4,Rz⟩
 ·obtain⟨L,b,M,⟨h1,h2,h3,h4,h5,h6⟩,h7⟩:=W5 hG hE (by omega) (by omega);obtain⟨L',M',b',⟨k1,k2,k3,k4⟩,k5⟩:=PK hG hE h11;obtain rfl:=akF k1 h1
  have eM:M'=M:=by
   obtain⟨d1,d2,d3⟩:=ES L' 0;change ∀x∈L',x<=Vc L' at d2;change Vc L'=0\/Vc L'∈L' at d3;have a:=d2 _ h6;rcases d3 with d3|d3
   ·omega
   ·have:=h5 _ d3; omega
  subst eM;obtain rfl:=akN h4 k3;have ha:=afD (s7 hG).1 ⟨h2,fun i hi=>aeR b i hi,fun i k wi hk=>aeS h3 wi hk⟩ h3;rw[ha] at k5;refine⟨gV b,⟨h2.len,fun p hp=>?_,L',h1.1,h2⟩,h7,k5⟩;obtain⟨i,hi,rfl⟩:=List.getElem_of_mem hp;obtain⟨j,R,_,_,_,e⟩:=h2.lv i hi
  have es:(gV b)[i].2.2=bR (gV b) i:=by
   unfold bR;rw[List.getD_eq_getElem?_getD,ai hi]; rfl
  rw[es,e];exact mY R
end Go.BmP
