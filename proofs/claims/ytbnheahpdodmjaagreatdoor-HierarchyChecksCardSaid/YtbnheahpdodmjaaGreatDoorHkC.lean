/- ref15.reach, ref15.Components. -/
import Derived.Test.YtbnheahpdodmjaaGreatDoorHkB
import Derived.Test.YtbnheahpdodmjaaGreatDoorHkR
set_option linter.unusedSimpArgs false
set_option linter.unusedVariables false
set_option maxRecDepth 100000
set_option maxHeartbeats 8000000
open List renaming drop_zero → ct, getElem?_eq_getElem → ai, length_append → bK, length_cons → cc, mem_cons_self → cF, take_of_length_le → aK
namespace Go.BmP
open Go.Am Go.Bm
def rwE (l o:List Int) (i:Nat) (J:Env):Env:=(2,.list 1 (ints l))::(3,.ptr 0 0)::(7,.own 1 (ints o))::(8,.int .i64 i)::J
def VE (N:Nat) (Es:List Ed) (l o W:List Int) (i j:Nat) (J:Env):St:=⟨rwE l o i ((25,.list 1 (ints W))::(26,.int .i64 W.length)::(27,.int .i64 j)::J),uC N Es⟩
theorem acv (N:Nat) (Es:List Ed) (l o W:List Int) (i j:Nat) (hl:l.length<=64) (ho:o.length<=64) (hW:W.length<=64) (hj:j<W.length) :
  aY an 0 La (VE N Es l o W i j [])=some (.normal,VE N Es l (PL l o W[j]) W i (j+1) []):=by
 have k1:(j:Int)<W.length:=by omega
 have hw:=dO (i:=j) (by omega);have lW:=ah W;have g4:∀h,(ints W)[j]'h=.int .i64 W[j]:=fun h=>aZ _ _ _;have g3:(ints W)[j]?=some (.int .i64 W[j]):=by rw[ai (by omega),g4]
 have h1:=wV W[j] l (by omega);have h2:=wV W[j] o (by omega);have lo:=ah o;have le1:o.length+1<=4294967296:=by omega
 have tk:(ints o++[AV.int .i64 W[j]]).take (o.length+1)=ints (o++[W[j]]):=by rw[dZ,aK (by rw[ah]; simp)]
 have tko:(ints o).take o.length=ints o:=aK (by omega);have sn:=dZ o W[j];obtain⟨a1,a2,a3,a4,a5,a6,a7,a8,a9,aa,ab⟩:=bj l;obtain⟨b1,b2,b3,b4,b5,b6,b7,b8,b9,ba,bb⟩:=bj o;obtain⟨c1,c2,c3,c4,c5,c6,c7,c8,c9,ca,cb⟩:=bj W;unfold PL;unfold VE rwE uC;by_cases q1:W[j]∈l
 ·by_cases q2:W[j]∈o
  ·rw[if_neg fun h=>h.2 q2];rw[decide_eq_true q1] at h1;rw[decide_eq_true q2] at h2;generalize W[j]=x at *;generalize ints l=L1 at *;generalize ints W=W1 at *;generalize ints (o++[x])=O2 at *;generalize ints o=O1 at *;generalize dA Es=Y at *;unfold La;simp[Hd,Hc,Hb,G9,G8,G7,G6,G5,G4,G3,zp,zo,k1,hw,lW,g3,g4,h1,h2,lo,tko,hj,a1,a2,a3,a4,a5,a6,a7,a8,a9,aa,ab,b1,b2,b3,b4,b5,b6,b7,b8,b9,ba,bb,c1,c2,c3,c4,c5,c6,c7,c8,c9,ca,cb,idx,aJ,dq,pl,sQN,iQN]
  ·rw[if_pos ⟨q1,q2⟩];rw[decide_eq_true q1] at h1;rw[decide_eq_false q2] at h2;generalize W[j]=x at *;generalize ints l=L1 at *;generalize ints W=W1 at *;generalize ints (o++[x])=O2 at *;generalize ints o=O1 at *;generalize dA Es=Y at *;unfold La;simp[Hd,Hc,Hb,G9,G8,G7,G6,G5,G4,G3,zp,zo,k1,hw,lW,g3,g4,h1,h2,lo,le1,lU,tk,tko,sn,hj,a1,a2,a3,a4,a5,a6,a7,a8,a9,aa,ab,b1,b2,b3,b4,b5,b6,b7,b8,b9,ba,bb,c1,c2,c3,c4,c5,c6,c7,c8,c9,ca,cb,idx,aJ,dq,pl,sQN,iQN]
 ·rw[if_neg fun h=>q1 h.1];rw[decide_eq_false q1] at h1;generalize W[j]=x at *;generalize ints l=L1 at *;generalize ints W=W1 at *;generalize ints (o++[x])=O2 at *;generalize ints o=O1 at *;generalize dA Es=Y at *;unfold La;simp[Hd,Hc,Hb,G9,G8,G7,G6,G5,G4,G3,zp,zo,k1,hw,lW,g3,g4,h1,lo,hj,a1,a2,a3,a4,a5,a6,a7,a8,a9,aa,ab,b1,b2,b3,b4,b5,b6,b7,b8,b9,ba,bb,c1,c2,c3,c4,c5,c6,c7,c8,c9,ca,cb,idx,aJ,dq,pl,sQN,iQN]
theorem XS (N:Nat) (Es:List Ed) (l W:List Int) (i:Nat) (hl:l.length<=64) (hW:W.length<=64):∀(n j:Nat) (o:List Int),j+n=W.length->((W.drop j).foldl (PL l) o).length<=64 ->
  aY an 0 (.loop La) (VE N Es l o W i j [])=some (.exit 2,VE N Es l ((W.drop j).foldl (PL l) o) W i W.length [(28,.bool false)])
 |0,j,o,hj,_=>by
   obtain rfl:j=W.length:=by omega
   rw[List.drop_length,List.foldl_nil];refine bt ?_;unfold VE rwE uC;generalize ints l=L1 at *;generalize ints W=W1 at *;generalize ints o=O1 at *;generalize dA Es=Y at *;unfold La;simp[Hd,Hc,Hb,G9,G8,G7,G6,G5,G4,G3,zp,zo]
 |n+1,j,o,hj,hf=>by
   have bF:j<W.length:=by omega
   rw[List.drop_eq_getElem_cons bF,List.foldl_cons] at hf ⊢;obtain⟨t,ht⟩:=Iv l (W.drop (j+1)) (PL l o W[j]);obtain⟨s,hs⟩:=X5 l o W[j];have ho:o.length<=64:=by rw[ht,hs] at hf; simp at hf; omega
   exact (aV (acv N Es l o W i j hl ho hW bF)).trans (XS N Es l W i hl hW n (j+1) (PL l o W[j]) (by omega) hf)
/- ref15.reach and ref15.Components, as a whole. -/
def VD (N:Nat) (Es:List Ed) (l o:List Int) (i:Nat) (J:Env):St:=⟨rwE l o i J,uC N Es⟩
abbrev nbA (A:List Nat) (x:Int):List Int:=bW (A.getD x.toNat 0)
theorem acu {N:Nat} {Es:List Ed} (hG:tV (N:Int) Es) (hE:Es.length<1000000) {l F o:List Int} {i:Nat} (hl:∀x∈l,0<=x/\x<(N:Int)) (hll:l.length<=64) (h:RcI (nbA (eB N Es)) l F i o) (hi:i<o.length) :
  aY an 0 To (VD N Es l o i [])=some (.normal,VD N Es l ((nbA (eB N Es) o[i]).foldl (PL l) o) (i+1) []):=by
 have hx:=hl o[i] (h.sub _ (List.getElem_mem hi));have ol:=Iu _ _ _ h;have st:=RB _ _ _ h hi;have ol2:=Iu _ _ _ st;have nr:=zI hG hE hx.1 hx.2
 have eb:HG N Es o[i]=nbA (eB N Es) o[i]:=by
  have:=abb hG (v:=o[i].toNat) (by omega);rw[show ((o[i].toNat:Nat):Int)=o[i] by omega] at this;exact this.symm
 rw[eb] at nr;have lW:(nbA (eB N Es) o[i]).length<=64:=mY _;have lp:=XS N Es l (nbA (eB N Es) o[i]) i hll lW (nbA (eB N Es) o[i]).length 0 o (by omega) (by rw[ct]; omega);rw[ct] at lp;have k1:(i:Int)<o.length:=by omega
 have hw:=dO (i:=i) (by omega);have lo:=ah o;have g4:∀h,(ints o)[i]'h=.int .i64 o[i]:=fun h=>aZ _ _ _;have g3:(ints o)[i]?=some (.int .i64 o[i]):=by rw[ai (by omega),g4]
 have lWi:=ah (nbA (eB N Es) o[i]);obtain⟨a1,a2,a3,a4,a5,a6,a7,a8,a9,aa,ab⟩:=bj l;obtain⟨b1,b2,b3,b4,b5,b6,b7,b8,b9,ba,bb⟩:=bj o;obtain⟨c1,c2,c3,c4,c5,c6,c7,c8,c9,ca,cb⟩:=bj (nbA (eB N Es) o[i]);clear st eb;unfold VE rwE uC at lp;unfold VD rwE uC;simp only[fU] at lp;generalize ints ((nbA (eB N Es) o[i]).foldl (PL l) o)=O2 at *;generalize nbA (eB N Es) o[i]=W at *;generalize o[i]=x at *;generalize ints l=L1 at *;generalize ints W=W1 at *;generalize ints o=O1 at *;generalize dA Es=Y at *;unfold To;simp[Hd,Hc,Hb,G9,G8,G7,G6,G5,G4,G3,zp,zo,k1,hi,hw,lo,lWi,g3,g4,nr,lp,a1,a2,a3,a4,a5,a6,a7,a8,a9,aa,ab,b1,b2,b3,b4,b5,b6,b7,b8,b9,ba,bb,c1,c2,c3,c4,c5,c6,c7,c8,c9,ca,cb,idx,aJ,dq,pl,sQ8,iQ8]
theorem XR {N:Nat} {Es:List Ed} (hG:tV (N:Int) Es) (hE:Es.length<1000000) {l F:List Int} (hl:∀x∈l,0<=x/\x<(N:Int)) (hll:l.length<=64):∀(n i:Nat) (o:List Int),RcI (nbA (eB N Es)) l F i o->i<=o.length->l.length<i+n ->
  ∃ i' o',(RcI (nbA (eB N Es)) l F i' o'/\o'.length<=i')/\aY an 0 (.loop To) (VD N Es l o i [])=some (.exit 0,VD N Es l o' i' [(17,.bool false)])
 |0,i,o,h,hi,hn=>by
   have:=Iu _ _ _ h;omega
 |n+1,i,o,h,hi,hn=>by
   by_cases q:i<o.length
   ·have st:=RB _ _ _ h q;obtain⟨t,ht⟩:=Iv l (nbA (eB N Es) o[i]) o;obtain⟨i',o',h1,h2⟩:=XR hG hE hl hll n (i+1) _ st (by rw[ht,bK]; omega) (by omega);exact⟨i',o',h1,(aV (acu hG hE hl hll h q)).trans h2⟩
   ·refine⟨i,o,⟨h,by omega⟩,bt ?_⟩;have lo:=ah o;have k1:¬(i:Int)<o.length:=by omega
    unfold VD rwE uC;generalize ints l=L1 at *;generalize ints o=O1 at *;generalize dA Es=Y at *;unfold To;simp[Hd,Hc,Hb,G9,G8,G7,G6,G5,G4,G3,zp,zo,lo,k1]
theorem VH {N:Nat} {Es:List Ed} (hG:tV (N:Int) Es) (hE:Es.length<1000000) {l:List Int} (hu:Up l) (hl:∀x∈l,0<=x/\x<(N:Int)) (v:Nat) (hv:(v:Int)∈l) :
  ∃ R,pd (eB N Es) (yF l) (2 ^ v) R/\bu an nQP [.agg [.int .i64 N,.list 2 (dA Es)],.list 1 (ints [(v:Int)]),.list 1 (ints l)] []=some (.list 1 (ints (bW R)),[]):=by
 have hN:N<=64:=by have:=hG.1.2; omega
 have hll:l.length<=64:=by
  have:=u9 (A:=l) (B:=(List.range N).map fun n=>((n:Nat):Int)) (hu.imp fun{a b} h=>by omega) fun x hx=>by
   have:=hl x hx;exact List.mem_map.2 ⟨x.toNat,List.mem_range.2 (by omega),by omega⟩
  rw[List.length_map,List.length_range] at this;omega
 have st:=aby (nbA (eB N Es)) l [(v:Int)] (by simp);have e1:[(v:Int)].filter (fun x=>decide (x∈l))=[(v:Int)]:=by simp[hv]
 rw[e1] at st
 have em:meet [(v:Int)] l=[(v:Int)]:=by
  obtain⟨mu,mm⟩:=sX [(v:Int)] l;refine ta mu (by simp[Up]) fun x=>?_;rw[mm];constructor
  ·exact fun h=>h.1
  ·intro h;have:x=(v:Int):=by simpa using h
   subst this;exact⟨h,hv⟩
 have mr:=SR [(v:Int)] l (by simp) (by omega);rw[em] at mr;obtain⟨i',o',⟨h1,h2⟩,lp⟩:=XR hG hE hl hll (l.length+1) 0 [(v:Int)] st (Nat.zero_le _) (by omega);obtain⟨r1,r2⟩:=acN (fun x hx=>by have:=hl x hx; omega) h1 h2 v rfl hv;refine⟨_,r1,?_⟩;have ol:=Iu _ _ _ h1;have ofr:=PV o' (by omega);rw[r2] at ofr;have lo:=ah o';have cv:=aH [(v:Int)];have tko:(ints o').take o'.length=ints o':=aK (by omega);obtain⟨a1,a2,a3,a4,a5,a6,a7,a8,a9,aa,ab⟩:=bj l;obtain⟨b1,b2,b3,b4,b5,b6,b7,b8,b9,ba,bb⟩:=bj o';obtain⟨c1,c2,c3,c4,c5,c6,c7,c8,c9,ca,cb⟩:=bj [(v:Int)];obtain⟨d1,d2,d3,d4,d5,d6,d7,d8,d9,da,db⟩:=bj (bW (yF o'));rw[eO sQP (Nat.le_of_ble_eq_true rfl)];unfold VD rwE uC at lp;simp only[fU] at lp;clear r1 r2 h1 st em e1;generalize ints (bW (yF o'))=B1 at *;generalize ints [(v:Int)]=V1 at *;generalize ints l=L1 at *;generalize ints o'=O1 at *;generalize dA Es=Y at *;unfold qQP cQP;simp[Hd,Hc,Hb,G9,G8,G7,G6,G5,G4,G3,zp,zo,mr,lp,ofr,lo,cv,tko,a1,a2,a3,a4,a5,a6,a7,a8,a9,aa,ab,b1,b2,b3,b4,b5,b6,b7,b8,b9,ba,bb,c1,c2,c3,c4,c5,c6,c7,c8,c9,ca,cb,d1,d2,d3,d4,d5,d6,d7,d8,d9,da,db,aJ,bM,bI,mM,jR,eZ,dq,pl,sQ7,iQ7,sQ9,iQ9]
def Xc (N:Nat) (Es:List Ed) (cs:List Nat) (l:List Int) (J:Env):St:=⟨(1,.ptr 0 0)::(5,.own 1 (gk cs))::(6,.list 1 (ints l))::J,uC N Es⟩
theorem afn {N:Nat} {Es:List Ed} (hG:tV (N:Int) Es) (hE:Es.length<1000000) (cs:List Nat) (v:Nat) (r:List Int) (hu:Up ((v:Int)::r)) (hl:∀x∈(v:Int)::r,0<=x/\x<(N:Int)) (hc:cs.length+(r.length+1)<=64) :
  ∃ R,pd (eB N Es) (yF ((v:Int)::r)) (2 ^ v) R/\aY an 0 Td (Xc N Es cs ((v:Int)::r) [])=some (.normal,Xc N Es (cs++[R]) (minus ((v:Int)::r) (bW R)) []):=by
 obtain⟨R,h1,h2⟩:=VH hG hE hu hl v cF;refine⟨R,h1,?_⟩;have bl:=mY R;have mr:=Oj ((v:Int)::r) (bW R) (by simp; omega) (by omega);have ll:=ah ((v:Int)::r);have tk1:(ints ((v:Int)::r)).take 1=ints [(v:Int)]:=rfl;have gl:=gj cs;have sn:=OD cs R;have le1:cs.length+1<=4294967296:=by omega
 have tk:(gk cs++[AV.list 1 (ints (bW R))]).take (cs.length+1)=gk (cs++[R]):=by rw[sn,aK (by rw[gj]; simp)]
 have tko:(gk cs).take cs.length=gk cs:=aK (by omega);have k1:(0:Int)<((v:Int)::r).length:=by rw[cc]; omega
 have k2:1<=((v:Int)::r).length:=by simp
 have k3:0<((v:Int)::r).length:=by simp
 have k4:(1:Int)<=((v:Int)::r).length:=by rw[cc]; omega
 obtain⟨a1,a2,a3,a4,a5,a6,a7,a8,a9,aa,ab⟩:=bj ((v:Int)::r);obtain⟨b1,b2,b3,b4,b5,b6,b7,b8,b9,ba,bb⟩:=bj (bW R);obtain⟨c1,c2,c3,c4,c5,c6,c7,c8,c9,ca,cb⟩:=bj [(v:Int)];clear h1;unfold Xc uC;generalize ints (minus ((v:Int)::r) (bW R))=M1 at *;generalize ints (bW R)=B1 at *;generalize ints [(v:Int)]=V1 at *;generalize ((v:Int)::r).length=n at *;generalize ints ((v:Int)::r)=L1 at *;generalize gk (cs++[R])=C2 at *;generalize gk cs=C1 at *;generalize dA Es=Y at *;unfold Td;simp[Yi,Yh,Yg,Yf,Ye,Yd,Yc,Yb,Ya,X9,h2,mr,ll,tk1,gl,sn,le1,lU,tk,tko,k1,k2,k3,k4,a1,a2,a3,a4,a5,a6,a7,a8,a9,aa,ab,b1,b2,b3,b4,b5,b6,b7,b8,b9,ba,bb,c1,c2,c3,c4,c5,c6,c7,c8,c9,ca,cb,fz,E8,E7,rep,eK,aJ,dq,pl,sQP,iQP,sQQ,iQQ]
theorem aa4 {N:Nat} {Es:List Ed} (hG:tV (N:Int) Es) (hE:Es.length<1000000):∀(n:Nat) (l:List Int) (cs:List Nat),l.length<=n->Up l->(∀x∈l,0<=x/\x<(N:Int))->cs.length+l.length<=64 ->
  ∃ ds,(Xx (eB N Es) l ds/\ds.length<=l.length)/\aY an 0 (.loop Td) (Xc N Es cs l [])=some (.exit 0,Xc N Es (cs++ds) [] [(18,.bool false)])
 |_,[],cs,_,_,_,_=>by
   refine⟨[],⟨.nil,Nat.le_refl _⟩,bt ?_⟩;rw[List.append_nil];unfold Xc uC;rw[show ints []=[] from rfl];generalize gk cs=C1 at *;generalize dA Es=Y at *;unfold Td;simp[Yi,Yh,Yg,Yf,Ye,Yd,Yc,Yb,Ya,X9]
 |0,x::r,cs,h,_,_,_=>by simp at h
 |n+1,x::r,cs,hn,hu,hl,hc=>by
   obtain⟨v,rfl⟩:∃v:Nat,x=(v:Int):=⟨x.toNat,by have:=hl x cF; omega⟩;obtain⟨R,h1,h2⟩:=afn hG hE cs v r hu hl (by simpa using hc);obtain⟨mu,mm⟩:=nG ((v:Int)::r) (bW R)
   have sl:(minus ((v:Int)::r) (bW R)).length<=r.length:=u9 (mu.imp fun{a b} h=>by omega) fun y hy=>by
    obtain⟨y1,y2⟩:=(mm y).1 hy;rcases List.mem_cons.1 y1 with rfl|y1
    ·exact absurd ((iF h1.lt).2 (h1.sub v (wk v))) y2
    ·exact y1
   rw[cc] at hn hc;obtain⟨ds,⟨d1,d2⟩,d3⟩:=aa4 hG hE n (minus ((v:Int)::r) (bW R)) (cs++[R]) (by omega) mu (fun y hy=>hl y ((mm y).1 hy).1) (by rw[bK,List.length_singleton]; omega);refine⟨R::ds,⟨.cons v r R ds h1 d1,by rw[cc,cc]; omega⟩,?_⟩;rw[List.append_assoc] at d3;exact (aV h2).trans d3
end Go.BmP
