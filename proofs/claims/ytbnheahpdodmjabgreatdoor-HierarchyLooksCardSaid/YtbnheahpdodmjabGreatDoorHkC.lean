/- ref15.reach, ref15.Components. -/
import Derived.Test.YtbnheahpdodmjabGreatDoorHkB
import Derived.Test.YtbnheahpdodmjabGreatDoorHkR
set_option linter.unusedSimpArgs false
set_option linter.unusedVariables false
set_option maxRecDepth 100000
set_option maxHeartbeats 8000000
open List renaming drop_zero → cP, getElem?_eq_getElem → aj, length_append → bO, length_cons → cH, mem_cons_self → cI, take_of_length_le → aT
namespace Go.BmP
open Go.Am Go.Bm
def rwE (l o:List Int) (i:Nat) (J:Env):Env:=(2,.list 1 (ints l))::(3,.ptr 0 0)::(7,.own 1 (ints o))::(8,.int .i64 i)::J
def WY (N:Nat) (Es:List Ed) (l o W:List Int) (i j:Nat) (J:Env):St:=⟨rwE l o i ((25,.list 1 (ints W))::(26,.int .i64 W.length)::(27,.int .i64 j)::J),yV N Es⟩
theorem adW (N:Nat) (Es:List Ed) (l o W:List Int) (i j:Nat) (hl:l.length<=64) (ho:o.length<=64) (hW:W.length<=64) (hj:j<W.length) :
  aW aq 0 Ma (WY N Es l o W i j [])=some (.normal,WY N Es l (Q0 l o W[j]) W i (j+1) []):=by
 have k1:(j:Int)<W.length:=by omega
 have hw:=dA (i:=j) (by omega);have lW:=ah W;have g4:∀h,(ints W)[j]'h=.int .i64 W[j]:=fun h=>bu _ _ _;have g3:(ints W)[j]?=some (.int .i64 W[j]):=by rw[aj (by omega),g4]
 have h1:=pJ W[j] l (by omega);have h2:=pJ W[j] o (by omega);have lo:=ah o;have Ry:o.length+1<=4294967296:=by omega
 have tk:(ints o++[AV.int .i64 W[j]]).take (o.length+1)=ints (o++[W[j]]):=by rw[cZ,aT (by rw[ah]; simp)]
 have Oq:(ints o).take o.length=ints o:=aT (by omega);have sn:=cZ o W[j];obtain⟨a1,a2,a3,a4,a5,a6,a7,a8,a9,aa,ab⟩:=bg l;obtain⟨b1,b2,b3,b4,b5,b6,b7,b8,b9,ba,bb⟩:=bg o;obtain⟨c1,c2,c3,c4,c5,c6,c7,c8,c9,ca,cb⟩:=bg W;unfold Q0;unfold WY rwE yV;by_cases q1:W[j]∈l
 ·by_cases q2:W[j]∈o
  ·rw[if_neg fun h=>h.2 q2];rw[decide_eq_true q1] at h1;rw[decide_eq_true q2] at h2;generalize W[j]=x at *;generalize ints l=L1 at *;generalize ints W=W1 at *;generalize ints (o++[x])=O2 at *;generalize ints o=O1 at *;generalize fe Es=Y at *;unfold Ma;simp[HG,HF,HE,HD,HB,HA,Hz,Hy,Hw,Hv,zR,zQ,k1,hw,lW,g3,g4,h1,h2,lo,Oq,hj,a1,a2,a3,a4,a5,a6,a7,a8,a9,aa,ab,b1,b2,b3,b4,b5,b6,b7,b8,b9,ba,bb,c1,c2,c3,c4,c5,c6,c7,c8,c9,ca,cb,idx,aH,dc,pl,Jp,Nz]
  ·rw[if_pos ⟨q1,q2⟩];rw[decide_eq_true q1] at h1;rw[decide_eq_false q2] at h2;generalize W[j]=x at *;generalize ints l=L1 at *;generalize ints W=W1 at *;generalize ints (o++[x])=O2 at *;generalize ints o=O1 at *;generalize fe Es=Y at *;unfold Ma;simp[HG,HF,HE,HD,HB,HA,Hz,Hy,Hw,Hv,zR,zQ,k1,hw,lW,g3,g4,h1,h2,lo,Ry,ks,tk,Oq,sn,hj,a1,a2,a3,a4,a5,a6,a7,a8,a9,aa,ab,b1,b2,b3,b4,b5,b6,b7,b8,b9,ba,bb,c1,c2,c3,c4,c5,c6,c7,c8,c9,ca,cb,idx,aH,dc,pl,Jp,Nz]
 ·rw[if_neg fun h=>q1 h.1];rw[decide_eq_false q1] at h1;generalize W[j]=x at *;generalize ints l=L1 at *;generalize ints W=W1 at *;generalize ints (o++[x])=O2 at *;generalize ints o=O1 at *;generalize fe Es=Y at *;unfold Ma;simp[HG,HF,HE,HD,HB,HA,Hz,Hy,Hw,Hv,zR,zQ,k1,hw,lW,g3,g4,h1,lo,hj,a1,a2,a3,a4,a5,a6,a7,a8,a9,aa,ab,b1,b2,b3,b4,b5,b6,b7,b8,b9,ba,bb,c1,c2,c3,c4,c5,c6,c7,c8,c9,ca,cb,idx,aH,dc,pl,Jp,Nz]
theorem Zg (N:Nat) (Es:List Ed) (l W:List Int) (i:Nat) (hl:l.length<=64) (hW:W.length<=64):∀(n j:Nat) (o:List Int),j+n=W.length->((W.drop j).foldl (Q0 l) o).length<=64 ->
  aW aq 0 (.loop Ma) (WY N Es l o W i j [])=some (.exit 2,WY N Es l ((W.drop j).foldl (Q0 l) o) W i W.length [(28,.bool false)])
 |0,j,o,hj,_=>by
   obtain rfl:j=W.length:=by omega
   rw[List.drop_length,List.foldl_nil];refine bn ?_;unfold WY rwE yV;generalize ints l=L1 at *;generalize ints W=W1 at *;generalize ints o=O1 at *;generalize fe Es=Y at *;unfold Ma;simp[HG,HF,HE,HD,HB,HA,Hz,Hy,Hw,Hv,zR,zQ]
 |n+1,j,o,hj,hf=>by
   have bE:j<W.length:=by omega
   rw[List.drop_eq_getElem_cons bE,List.foldl_cons] at hf ⊢;obtain⟨t,ht⟩:=IH l (W.drop (j+1)) (Q0 l o W[j]);obtain⟨s,hs⟩:=Zs l o W[j];have ho:o.length<=64:=by rw[ht,hs] at hf; simp at hf; omega
   exact (aS (adW N Es l o W i j hl ho hW bE)).trans (Zg N Es l W i hl hW n (j+1) (Q0 l o W[j]) (by omega) hf)
/- ref15.reach and ref15.Components, as a whole. -/
def WX (N:Nat) (Es:List Ed) (l o:List Int) (i:Nat) (J:Env):St:=⟨rwE l o i J,yV N Es⟩
abbrev qw (A:List Nat) (x:Int):List Int:=bZ (A.getD x.toNat 0)
theorem adV {N:Nat} {Es:List Ed} (hG:uQ (N:Int) Es) (hE:Es.length<1000000) {l F o:List Int} {i:Nat} (hl:∀x∈l,0<=x/\x<(N:Int)) (hll:l.length<=64) (h:RcI (qw (eK N Es)) l F i o) (hi:i<o.length) :
  aW aq 0 UM (WX N Es l o i [])=some (.normal,WX N Es l ((qw (eK N Es) o[i]).foldl (Q0 l) o) (i+1) []):=by
 have hx:=hl o[i] (h.sub _ (List.getElem_mem hi));have ol:=IG _ _ _ h;have st:=Ti _ _ _ h hi;have ol2:=IG _ _ _ st;have nr:=Ad hG hE hx.1 hx.2
 have eb:HU N Es o[i]=qw (eK N Es) o[i]:=by
  have:=acw hG (v:=o[i].toNat) (by omega);rw[show ((o[i].toNat:Nat):Int)=o[i] by omega] at this;exact this.symm
 rw[eb] at nr;have lW:(qw (eK N Es) o[i]).length<=64:=nt _;have lp:=Zg N Es l (qw (eK N Es) o[i]) i hll lW (qw (eK N Es) o[i]).length 0 o (by omega) (by rw[cP]; omega);rw[cP] at lp;have k1:(i:Int)<o.length:=by omega
 have hw:=dA (i:=i) (by omega);have lo:=ah o;have g4:∀h,(ints o)[i]'h=.int .i64 o[i]:=fun h=>bu _ _ _;have g3:(ints o)[i]?=some (.int .i64 o[i]):=by rw[aj (by omega),g4]
 have lWi:=ah (qw (eK N Es) o[i]);obtain⟨a1,a2,a3,a4,a5,a6,a7,a8,a9,aa,ab⟩:=bg l;obtain⟨b1,b2,b3,b4,b5,b6,b7,b8,b9,ba,bb⟩:=bg o;obtain⟨c1,c2,c3,c4,c5,c6,c7,c8,c9,ca,cb⟩:=bg (qw (eK N Es) o[i]);clear st eb;unfold WY rwE yV at lp;unfold WX rwE yV;simp only[fH] at lp;generalize ints ((qw (eK N Es) o[i]).foldl (Q0 l) o)=O2 at *;generalize qw (eK N Es) o[i]=W at *;generalize o[i]=x at *;generalize ints l=L1 at *;generalize ints W=W1 at *;generalize ints o=O1 at *;generalize fe Es=Y at *;unfold UM;simp[HG,HF,HE,HD,HB,HA,Hz,Hy,Hw,Hv,zR,zQ,k1,hi,hw,lo,lWi,g3,g4,nr,lp,a1,a2,a3,a4,a5,a6,a7,a8,a9,aa,ab,b1,b2,b3,b4,b5,b6,b7,b8,b9,ba,bb,c1,c2,c3,c4,c5,c6,c7,c8,c9,ca,cb,idx,aH,dc,pl,sQa3,iQa3]
theorem Zf {N:Nat} {Es:List Ed} (hG:uQ (N:Int) Es) (hE:Es.length<1000000) {l F:List Int} (hl:∀x∈l,0<=x/\x<(N:Int)) (hll:l.length<=64):∀(n i:Nat) (o:List Int),RcI (qw (eK N Es)) l F i o->i<=o.length->l.length<i+n ->
  ∃ i' o',(RcI (qw (eK N Es)) l F i' o'/\o'.length<=i')/\aW aq 0 (.loop UM) (WX N Es l o i [])=some (.exit 0,WX N Es l o' i' [(17,.bool false)])
 |0,i,o,h,hi,hn=>by
   have:=IG _ _ _ h;omega
 |n+1,i,o,h,hi,hn=>by
   by_cases q:i<o.length
   ·have st:=Ti _ _ _ h q;obtain⟨t,ht⟩:=IH l (qw (eK N Es) o[i]) o;obtain⟨i',o',h1,h2⟩:=Zf hG hE hl hll n (i+1) _ st (by rw[ht,bO]; omega) (by omega);exact⟨i',o',h1,(aS (adV hG hE hl hll h q)).trans h2⟩
   ·refine⟨i,o,⟨h,by omega⟩,bn ?_⟩;have lo:=ah o;have k1:¬(i:Int)<o.length:=by omega
    unfold WX rwE yV;generalize ints l=L1 at *;generalize ints o=O1 at *;generalize fe Es=Y at *;unfold UM;simp[HG,HF,HE,HD,HB,HA,Hz,Hy,Hw,Hv,zR,zQ,lo,k1]
theorem W3 {N:Nat} {Es:List Ed} (hG:uQ (N:Int) Es) (hE:Es.length<1000000) {l:List Int} (hu:Up l) (hl:∀x∈l,0<=x/\x<(N:Int)) (v:Nat) (hv:(v:Int)∈l) :
  ∃ R,pT (eK N Es) (ze l) (2 ^ v) R/\bJ aq nQS [.agg [.int .i64 N,.list 2 (fe Es)],.list 1 (ints [(v:Int)]),.list 1 (ints l)] []=some (.list 1 (ints (bZ R)),[]):=by
 have hN:N<=64:=by have:=hG.1.2; omega
 have hll:l.length<=64:=by
  have:=xm (A:=l) (B:=(List.range N).map fun n=>((n:Nat):Int)) (hu.imp fun{a b} h=>by omega) fun x hx=>by
   have:=hl x hx;exact List.mem_map.2 ⟨x.toNat,List.mem_range.2 (by omega),by omega⟩
  rw[List.length_map,List.length_range] at this;omega
 have st:=acS (qw (eK N Es)) l [(v:Int)] (by simp);have e1:[(v:Int)].filter (fun x=>decide (x∈l))=[(v:Int)]:=by simp[hv]
 rw[e1] at st
 have em:meet [(v:Int)] l=[(v:Int)]:=by
  obtain⟨mu,mm⟩:=tB [(v:Int)] l;refine tK mu (by simp[Up]) fun x=>?_;rw[mm];constructor
  ·exact fun h=>h.1
  ·intro h;have:x=(v:Int):=by simpa using h
   subst this;exact⟨h,hv⟩
 have mr:=Uq [(v:Int)] l (by simp) (by omega);rw[em] at mr;obtain⟨i',o',⟨h1,h2⟩,lp⟩:=Zf hG hE hl hll (l.length+1) 0 [(v:Int)] st (Nat.zero_le _) (by omega);obtain⟨r1,r2⟩:=ael (fun x hx=>by have:=hl x hx; omega) h1 h2 v rfl hv;refine⟨_,r1,?_⟩;have ol:=IG _ _ _ h1;have ofr:=Ri o' (by omega);rw[r2] at ofr;have lo:=ah o';have cv:=aK [(v:Int)];have Oq:(ints o').take o'.length=ints o':=aT (by omega);obtain⟨a1,a2,a3,a4,a5,a6,a7,a8,a9,aa,ab⟩:=bg l;obtain⟨b1,b2,b3,b4,b5,b6,b7,b8,b9,ba,bb⟩:=bg o';obtain⟨c1,c2,c3,c4,c5,c6,c7,c8,c9,ca,cb⟩:=bg [(v:Int)];obtain⟨d1,d2,d3,d4,d5,d6,d7,d8,d9,da,db⟩:=bg (bZ (ze o'));rw[dZ sQS (Nat.le_of_ble_eq_true rfl)];unfold WX rwE yV at lp;simp only[fH] at lp;clear r1 r2 h1 st em e1;generalize ints (bZ (ze o'))=B1 at *;generalize ints [(v:Int)]=V1 at *;generalize ints l=L1 at *;generalize ints o'=O1 at *;generalize fe Es=Y at *;unfold qQS cQS;simp[HG,HF,HE,HD,HB,HA,Hz,Hy,Hw,Hv,zR,zQ,mr,lp,ofr,lo,cv,Oq,a1,a2,a3,a4,a5,a6,a7,a8,a9,aa,ab,b1,b2,b3,b4,b5,b6,b7,b8,b9,ba,bb,c1,c2,c3,c4,c5,c6,c7,c8,c9,ca,cb,d1,d2,d3,d4,d5,d6,d7,d8,d9,da,db,aH,bL,bC,eR,fW,dm,dc,pl,sQa2,iQa2,sQa4,iQa4]
def YD (N:Nat) (Es:List Ed) (cs:List Nat) (l:List Int) (J:Env):St:=⟨(1,.ptr 0 0)::(5,.own 1 (gJ cs))::(6,.list 1 (ints l))::J,yV N Es⟩
theorem agY {N:Nat} {Es:List Ed} (hG:uQ (N:Int) Es) (hE:Es.length<1000000) (cs:List Nat) (v:Nat) (r:List Int) (hu:Up ((v:Int)::r)) (hl:∀x∈(v:Int)::r,0<=x/\x<(N:Int)) (hc:cs.length+(r.length+1)<=64) :
  ∃ R,pT (eK N Es) (ze ((v:Int)::r)) (2 ^ v) R/\aW aq 0 UG (YD N Es cs ((v:Int)::r) [])=some (.normal,YD N Es (cs++[R]) (minus ((v:Int)::r) (bZ R)) []):=by
 obtain⟨R,h1,h2⟩:=W3 hG hE hu hl v cI;refine⟨R,h1,?_⟩;have bl:=nt R;have mr:=Pz ((v:Int)::r) (bZ R) (by simp; omega) (by omega);have ll:=ah ((v:Int)::r);have tk1:(ints ((v:Int)::r)).take 1=ints [(v:Int)]:=rfl;have gl:=gI cs;have sn:=PX cs R;have Ry:cs.length+1<=4294967296:=by omega
 have tk:(gJ cs++[AV.list 1 (ints (bZ R))]).take (cs.length+1)=gJ (cs++[R]):=by rw[sn,aT (by rw[gI]; simp)]
 have Oq:(gJ cs).take cs.length=gJ cs:=aT (by omega);have k1:(0:Int)<((v:Int)::r).length:=by rw[cH]; omega
 have k2:1<=((v:Int)::r).length:=by simp
 have k3:0<((v:Int)::r).length:=by simp
 have k4:(1:Int)<=((v:Int)::r).length:=by rw[cH]; omega
 obtain⟨a1,a2,a3,a4,a5,a6,a7,a8,a9,aa,ab⟩:=bg ((v:Int)::r);obtain⟨b1,b2,b3,b4,b5,b6,b7,b8,b9,ba,bb⟩:=bg (bZ R);obtain⟨c1,c2,c3,c4,c5,c6,c7,c8,c9,ca,cb⟩:=bg [(v:Int)];clear h1;unfold YD yV;generalize ints (minus ((v:Int)::r) (bZ R))=M1 at *;generalize ints (bZ R)=B1 at *;generalize ints [(v:Int)]=V1 at *;generalize ((v:Int)::r).length=n at *;generalize ints ((v:Int)::r)=L1 at *;generalize gJ (cs++[R])=C2 at *;generalize gJ cs=C1 at *;generalize fe Es=Y at *;unfold UG;simp[ZE,ZD,ZC,ZB,ZA,Zz,Zy,Zx,Zw,Zu,h2,mr,ll,tk1,gl,sn,Ry,ks,tk,Oq,k1,k2,k3,k4,a1,a2,a3,a4,a5,a6,a7,a8,a9,aa,ab,b1,b2,b3,b4,b5,b6,b7,b8,b9,ba,bb,c1,c2,c3,c4,c5,c6,c7,c8,c9,ca,cb,fz,FG,Iw,rep,fa,aH,dc,pl,sQS,iQS,sQT,iQT]
theorem acj {N:Nat} {Es:List Ed} (hG:uQ (N:Int) Es) (hE:Es.length<1000000):∀(n:Nat) (l:List Int) (cs:List Nat),l.length<=n->Up l->(∀x∈l,0<=x/\x<(N:Int))->cs.length+l.length<=64 ->
  ∃ ds,(YW (eK N Es) l ds/\ds.length<=l.length)/\aW aq 0 (.loop UG) (YD N Es cs l [])=some (.exit 0,YD N Es (cs++ds) [] [(18,.bool false)])
 |_,[],cs,_,_,_,_=>by
   refine⟨[],⟨.nil,Nat.le_refl _⟩,bn ?_⟩;rw[List.append_nil];unfold YD yV;rw[show ints []=[] from rfl];generalize gJ cs=C1 at *;generalize fe Es=Y at *;unfold UG;simp[ZE,ZD,ZC,ZB,ZA,Zz,Zy,Zx,Zw,Zu]
 |0,x::r,cs,h,_,_,_=>by simp at h
 |n+1,x::r,cs,hn,hu,hl,hc=>by
   obtain⟨v,rfl⟩:∃v:Nat,x=(v:Int):=⟨x.toNat,by have:=hl x cI; omega⟩;obtain⟨R,h1,h2⟩:=agY hG hE cs v r hu hl (by simpa using hc);obtain⟨mu,mm⟩:=oA ((v:Int)::r) (bZ R)
   have sl:(minus ((v:Int)::r) (bZ R)).length<=r.length:=xm (mu.imp fun{a b} h=>by omega) fun y hy=>by
    obtain⟨y1,y2⟩:=(mm y).1 hy;rcases List.mem_cons.1 y1 with rfl|y1
    ·exact absurd ((iO h1.lt).2 (h1.sub v (wV v))) y2
    ·exact y1
   rw[cH] at hn hc;obtain⟨ds,⟨d1,d2⟩,d3⟩:=acj hG hE n (minus ((v:Int)::r) (bZ R)) (cs++[R]) (by omega) mu (fun y hy=>hl y ((mm y).1 hy).1) (by rw[bO,List.length_singleton]; omega);refine⟨R::ds,⟨.cons v r R ds h1 d1,by rw[cH,cH]; omega⟩,?_⟩;rw[List.append_assoc] at d3;exact (aS h2).trans d3
end Go.BmP
