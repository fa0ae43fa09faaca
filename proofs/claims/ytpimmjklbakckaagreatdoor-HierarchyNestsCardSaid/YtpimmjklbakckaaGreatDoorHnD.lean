/- HierarchyNests: the law. -/
import Derived.Test.YtpimmjklbakckaaGreatDoorHnC
import Derived.Test.YtpimmjklbakckaaGreatDoorHcB
set_option linter.unusedSimpArgs false
set_option linter.unusedVariables false
set_option maxRecDepth 100000
set_option maxHeartbeats 8000000
namespace Go.BmP
open Go.Am Go.Bm
theorem WI {N:Nat} {Es:List Ed} (hG:vW (N:Int) Es) (hE:Es.length<1000000) (h13:N<=13) :
  ∃ L P,(nj (ft N Es) N L/\OU (ft N Es) N L P)/\bU aC nQd [.agg [.int .i64 N,.list 2 (fi Es)]] []=some (.dF [.list 3 (P.map dZ),.int .i64 0],[]):=by
 by_cases h0:N=0
 ·subst h0
  have e:Es=[]:=by
   cases Es with
   |nil=>rfl
   |cons x r=>
     have:=hG.2.2 x List.mem_cons_self;omega
  subst e;refine⟨[],[],⟨⟨rfl,fun v hv=>by omega⟩,⟨by simp,fun i hi=>by simp at hi,fun i k _ hk=>by simp at hk,fun i hi=>by simp at hi,fun v hv=>by omega⟩⟩,?_⟩;exact Q1
 ·obtain⟨L,b,h1,h2⟩:=WH hG hE (by omega) h13;exact⟨L,_,h1,h2⟩
theorem Qx (l:List Int) (hl:l.length<=9223372036854775807):bU aC nQa [.list 1 (ints l)] []=some (.bool true,[]):=by
 have n1:=abp l;obtain⟨N,Es,a',n2,hG,hN,hE⟩:=Wt l hl 9 (by omega) 0;obtain⟨L,P,⟨hL,hH⟩,cr⟩:=WI hG (by omega) (by omega);obtain⟨L2,hL2,nr⟩:=XA hG (by omega);obtain rfl:=afc hL2 hL;have bd:=NM hL (yx hG).2.2;have hx:∀x∈L2,x<=64:=fun x hx=>by have:=(bd x hx).2; omega
 have Wc:=TI l a' hG (by omega) hL hH P.length 0 (by omega);have W8:=TG (by omega) hL hx hH N 0 (by omega);have aw:=aw18;have ll:(P.map dZ).length=P.length:=List.length_map _;have lL:=ah L2;rw[hL.1] at lL;obtain⟨g1,g2,g3,g4,g5,g6,g7,g8⟩:=Gm P;obtain⟨b1,b2,b3,b4,b5,b6,b7,b8,b9,ba,bb⟩:=bM L2;clear hL hL2 hH bd hx hG;rw[fK sQa (Nat.le_of_ble_eq_true rfl)];obtain⟨y1,y2,y3,y4,y5,y6,y7,y8,y9,ya,yb⟩:=bM l;unfold MS Qc my dk at *;generalize ints l=l1 at *;simp only[jJ] at Wc W8 n1 n2;rw[show ((9:Nat):Int)=9 from rfl] at n2;generalize P.map dZ=Pv at *;generalize ints L2=L1 at *;generalize fi Es=Y at *;unfold qQa cQa;simp[uZ,uY,uX,uW,uV,uU,uT,uS,uR,uQ,p9,p8,p7,pZ,pY,pX,pW,pT,pS,pR,pQ,pP,pO,pN,pK,pJ,pI,pH,pG,pF,pE,pD,pB,pz,py,px,n1,n2,cr,nr,Wc,W8,aw,ll,lL,g1,g2,g3,g4,g5,g6,g7,g8,b1,b2,b3,b4,b5,b6,b7,b8,b9,ba,bb,y1,y2,y3,y4,y5,y6,y7,y8,y9,ya,yb,aJ,cc,bR,sW,lN,fI,eE,pl,iu,dD,lV,mO,fy,eX,BP,yg,iN,ik,dn,gn,ja,rh,fD,qR,o7,iX,sQc,iQc,sQb,iQb,sQd,iQd,sQe,iQe,sQj,iQj]
end Go.BmP
