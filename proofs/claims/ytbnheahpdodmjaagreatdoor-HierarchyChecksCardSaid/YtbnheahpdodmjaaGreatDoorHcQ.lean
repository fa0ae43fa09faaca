/- hierarchy.gathered: the levels of the parts. -/
import Derived.Test.YtbnheahpdodmjaaGreatDoorHcN
set_option linter.unusedSimpArgs false
set_option linter.unusedVariables false
set_option maxRecDepth 100000
set_option maxHeartbeats 8000000
open Bool renaming and_eq_true → ae
open List renaming drop_eq_getElem_cons → bg, getElem_mem → eG, length_map → aQ, length_take → bw, map_cons → dp, mem_cons → aG, mem_cons_of_mem → cH, mem_cons_self → cF, mem_map → jP, nodup_cons → l8, not_mem_nil → tW
open Nat renaming testBit_two_pow → xm
open Option.some renaming inj → bm, injEq → af
open Prod renaming fst → eP
namespace Go.BmP
open Go.Am Go.Bm
def KY (a:List (List Int × Int)) (i:Nat):List AV:=(a.take i).map (fun p=>bH (p.2,-1,p.1))++(a.drop i).map fun p=>bH (0,-1,p.1)
theorem aep (a:List (List Int × Int)):KY a 0=qH a:=by simp[KY,qH]
theorem ag3 (a:List (List Int × Int)):KY a a.length=a.map fun p=>bH (p.2,-1,p.1):=by simp[KY]
theorem CQ (a:List (List Int × Int)) (i:Nat):(KY a i).length=a.length:=by simp[KY]; omega
theorem akO (a:List (List Int × Int)) (i:Nat) (h:i<a.length):(KY a i)[i]?=some (bH (0,-1,a[i].1)):=by
 unfold KY;rw[List.getElem?_append_right (by rw[aQ,bw]; omega),aQ,bw,Nat.min_eq_left (by omega),Nat.sub_self,List.getElem?_map,List.getElem?_drop];simp[h]
theorem ag2 (a:List (List Int × Int)) (i:Nat) (h:i<a.length):(KY a i).set i (bH (a[i].2,-1,a[i].1))=KY a (i+1):=by
 unfold KY;rw[List.set_append_right _ _ (by rw[aQ,bw]; omega),aQ,bw,Nat.min_eq_left (by omega),Nat.sub_self,bg h,dp,List.set_cons_zero,List.take_succ_eq_append_getElem h,List.map_append];simp
theorem aaT:∀(a:List (List Int × Int)),(a.map eP).Nodup->∀(i j:Nat) (h:i<a.length),∃n,qN a a[i].1 j=some (n,.int .i64 a[i].2)
 |[],_,i,_,h=>by simp at h
 |(t,z)::r,hn,0,j,h=>⟨j,by simp[qN]⟩
 |(t,z)::r,hn,i+1,j,h=>by
   rw[dp,l8] at hn;have hi:i<r.length:=by simpa using h
   obtain⟨n,hf⟩:=aaT r hn.2 i (j+1) hi;refine⟨n,?_⟩;have qd:¬t=r[i].1:=fun e=>hn.1 (jP.2 ⟨r[i],eG _,e.symm⟩);simp only[List.getElem_cons_succ];unfold qN;rw[if_neg qd]; exact hf
theorem OP:∀(a:List (List Int × Int)) (s:List Int) (i:Nat),(qN a s i).isSome=false->s∉a.map eP
 |[],s,i,_=>by simp
 |(t,z)::r,s,i,h=>by
   unfold qN at h;split at h
   ·cases h
   ·rename_i e;rw[dp,aG,not_or];exact⟨fun k=>e k.symm,OP r s _ h⟩
theorem IZ {a:List (List Int × Int)} (h:(a.map eP).Nodup) (s:List Int) (k:Int):((iH a s k).map eP).Nodup:=by
 rw[Ay];split
 ·exact h
 ·rename_i e;have:=OP a s 0 (by simpa using e);rw[List.nodup_append];exact⟨h,by simp,fun x hx y hy=>by simp at hy; subst hy; intro e2; subst e2; exact this hx⟩
theorem CP (k:Int):∀(l:List Nat) (a:List (List Int × Int)),(a.map eP).Nodup->((pk k a (l.map bW)).map eP).Nodup
 |[],a,h=>h
 |R::r,a,h=>CP k r (iH a (bW R) k) (IZ h _ _)
theorem KX {A:List Nat} {L:List Int} {k n:Nat} {a b:List (List Int × Int)} (h:Xs A L k n a b):(a.map eP).Nodup->(b.map eP).Nodup:=by
 induction h with
 |nil=>exact id
 |cons k n a b l _ _ ih=>exact fun h=>ih (CP _ l a h)
def WN (N:Nat) (Y O1 L1:List AV) (a:List (List Int × Int)) (i:Nat) (J:Env):St:=
 ⟨(5,pQ 5)::(6,.own 3 (KY a i))::(50,.int .i64 a.length)::(51,.int .i64 i)::J,hH N Y O1 L1 (C0 a)⟩
theorem ae3 {N:Nat} {Y:List AV} (o L:List Int) (a:List (List Int × Int)) (ha:∀p∈a,Lo p.1) (hn:(a.map eP).Nodup) (Q4:a.length<=900) (iR:∀p∈a,p.1.length<=64) (i:Nat) (hi:i<a.length) :
  aY an 5 Tu (WN N Y (ints o) (ints L) a i [])=some (.normal,WN N Y (ints o) (ints L) a (i+1) []):=by
 have k1:(i:Int)<a.length:=by omega
 have hw:=dO (i:=i) (by omega);have hm:a[i]∈a:=eG hi;have hs:=ha _ hm;have kr:=Qd a[i].1 (by have:=iR _ hm; omega) hs;obtain⟨n,hf⟩:=aaT a hn i 0 hi;have mf:=AP hs ha 0;rw[hf] at mf
 have kq:AW .CR (.str (nH a[i].1)) (.str (nH a[i].1))=some true:=by
  simp only[AW,af]; exact (MapKept.bytes_beq _ _).2 rfl
 have la:=CQ a i;have g3:=akO a i hi;have bF:i<(KY a i).length:=by rw[la]; exact hi
 have g4:∀h,(KY a i)[i]'h=bH (0,-1,a[i].1):=fun h=>by
  rw[List.getElem?_eq_getElem h] at g3;exact bm g3
 have st:=ag2 a i hi;have x1:=ux (bj o);have x2:=ux (bj L);have x3:=Eo (px a);obtain⟨a1,a2,a3,a4,a5,a6,a7,a8,a9,aa,ab⟩:=bj o;obtain⟨b1,b2,b3,b4,b5,b6,b7,b8,b9,ba,bb⟩:=bj L;obtain⟨c1,c2,c3,c4,c5,c6,c8⟩:=px a;unfold WN hH tt pQ;rw[<-st];unfold bH at *;generalize KY a i=P1 at *;generalize C0 a=E1 at *;generalize nH a[i].1=K at *;generalize ints a[i].1=S1 at *;generalize a[i].2=z at *;generalize ints o=O1 at *;generalize ints L=L1 at *;unfold Tu;simp[qG,qF,qE,qD,qC,qB,qA,qz,qy,qx,k8,k7,kZ,kY,kX,kW,kV,kU,kT,kS,kR,kQ,kP,kO,kN,kM,kK,kJ,kI,kH,kG,kF,k1,hw,g3,g4,la,hi,bF,kr,mf,kq,x1,x2,x3,a1,a2,a3,a4,a5,a6,a7,a8,a9,aa,ab,b1,b2,b3,b4,b5,b6,b7,b8,b9,ba,bb,c1,c2,c3,c4,c5,c6,c8,mapOf,pQ,mgv,idx,aJ,dq,pl,Ew,fz,E8,eK,sQV,iQV]
theorem aaN {N:Nat} {Y:List AV} (o L:List Int) (a:List (List Int × Int)) (ha:∀p∈a,Lo p.1) (hn:(a.map eP).Nodup) (Q4:a.length<=900) (iR:∀p∈a,p.1.length<=64):∀(n i:Nat),i+n=a.length ->
  aY an 5 (.loop Tu) (WN N Y (ints o) (ints L) a i [])=some (.exit 4,WN N Y (ints o) (ints L) a a.length [(52,.bool false)])
 |0,i,hi=>by
   obtain rfl:i=a.length:=by omega
   refine bt ?_;have la:=CQ a a.length;unfold WN hH tt pQ;generalize KY a a.length=P1 at *;generalize C0 a=E1 at *;generalize ints o=O1 at *;generalize ints L=L1 at *;unfold Tu;simp[qG,qF,qE,qD,qC,qB,qA,qz,qy,qx,k8,k7,kZ,kY,kX,kW,kV,kU,kT,kS,kR,kQ,kP,kO,kN,kM,kK,kJ,kI,kH,kG,kF]
 |n+1,i,hi=>(aV (ae3 o L a ha hn Q4 iR i (by omega))).trans (aaN o L a ha hn Q4 iR n (i+1) (by omega))
/- The hierarchy of cores, plain: the groups of all levels. -/
def Grp (A:List Nat) (m R:Nat):Prop:=∃v:Nat,m.testBit v=true/\pd A m (2 ^ v) R
theorem wk (v:Nat):(2 ^ v).testBit v=true:=by rw[xm]; simp
theorem tc {v j:Nat} (h:(2 ^ v).testBit j=true):j=v:=by
 rw[xm] at h;exact (of_decide_eq_true h).symm
theorem aeW {A:List Nat} {m r:Nat} {l:List Nat} (h:E4 A m r l):r<18446744073709551616->(∀j,r.testBit j=true->m.testBit j=true)->(∀R∈l,Grp A m R)/\∀ v,r.testBit v=true->∃R∈l,R.testBit v=true:=by
 induction h with
 |nil=>exact fun _ _=>⟨fun R hR=>absurd hR tW,fun v hv=>by simp at hv⟩
 |cons r R l h0 h1 h2 ih=>
   intro hr hm;obtain⟨tb,_⟩:=yN h0 hr;have nb:=fun j=>uI hr h1.lt j;obtain⟨i1,i2⟩:=ih (Nat.lt_of_le_of_lt Nat.and_le_left hr) fun j hj=>hm j (by rw[nb,ae] at hj; exact hj.1);refine⟨fun S hS=>?_,fun v hv=>?_⟩
   ·rcases aG.1 hS with rfl|hS
    ·exact⟨tz r,hm _ tb,h1⟩
    ·exact i1 S hS
   ·cases q:R.testBit v with
    |true=>exact⟨R,cF,q⟩
    |false=>
      obtain⟨S,s1,s2⟩:=i2 v (by rw[nb,hv,q]; rfl);exact⟨S,cH _ s1,s2⟩
theorem Lv {A:List Nat} (hS:Im A) {m m' R R' w:Nat} (hm:Nc m m') (h:Grp A m R) (h':Grp A m' R') (hw:R.testBit w=true) (hw':R'.testBit w=true):Nc R R':=by
 obtain⟨v,v1,v2⟩:=h;obtain⟨v',v3,v4⟩:=h'
 have c1:=v2.least (fun u=>m.testBit u=true/\(R'.testBit u=true->R'.testBit v=true)) (fun j hj=>by
  obtain rfl:=tc hj;exact⟨v1,id⟩) (fun j k hj hjk hk=>⟨hk,fun hk'=>hj.2 (v4.cl k j hk' (by rw[hS k j]; exact hjk) (hm _ hj.1))⟩) w hw
 have c2:=c1.2 hw'
 exact fun j hj=>v2.least (fun u=>R'.testBit u=true) (fun j hj=>by
  obtain rfl:=tc hj;exact c2) (fun j k hj hjk hk=>v4.cl j k hj hjk (hm _ hk)) j hj
theorem WH {A:List Nat} {m R:Nat} (h:Grp A m R):R<18446744073709551616:=by
 obtain⟨v,_,h⟩:=h;exact h.lt
theorem aia {R j:Nat} (h:R<18446744073709551616) (hj:R.testBit j=true):j<64:=by
 apply Nat.lt_of_not_le;intro q
 have:R.testBit j=false:=Nat.testBit_lt_two_pow (Nat.lt_of_lt_of_le h (by
  rw[show (18446744073709551616:Nat)=2 ^ 64 from rfl];exact Nat.pow_le_pow_right (by decide) q))
 rw[this] at hj;cases hj
theorem iF {R:Nat} (h:R<18446744073709551616) {j:Nat}:(j:Int)∈bW R ↔ R.testBit j=true:=by
 rw[fG];constructor
 ·rintro⟨i,e,_,hi⟩;obtain rfl:j=i:=by omega
  exact hi
 ·exact fun hj=>⟨j,rfl,aia h hj,hj⟩
abbrev En (L:List Int) (k:Nat):Nat:=T6 (k:Int) L 0 0
theorem AR {L:List Int} {k j:Nat}:(En L k).testBit j=true ↔ j<L.length/\(k:Int)<=L.getD j 0:=by
 rw[Qw,Nat.zero_testBit,Bool.false_or,ae,ae,decide_eq_true_eq,decide_eq_true_eq,decide_eq_true_eq,Nat.sub_zero];exact⟨fun h=>⟨h.1.2,h.2⟩,fun h=>⟨⟨Nat.zero_le _,h.1⟩,h.2⟩⟩
theorem ag1 {L:List Int} {j k:Nat} (h:j<=k):Nc (En L k) (En L j):=fun i hi=>by
 rw[AR] at *;exact⟨hi.1,by omega⟩
def IsG (A:List Nat) (L:List Int) (k:Nat) (s:List Int):Prop:=∃R,Grp A (En L k) R/\s=bW R
theorem Rc:∀{a:List (List Int × Int)},(a.map eP).Nodup->∀(s:List Int) (k:Int) (p:List Int × Int),p∈iH a s k ↔ p=(s,k)\/(p∈a/\p.1≠s)
 |[],_,s,k,p=>by simp[iH]
 |(t,j)::r,hn,s,k,p=>by
   rw[dp,l8] at hn;unfold iH;split
   ·rename_i e;subst e;rw[aG,aG];constructor
    ·rintro (h|h)
     ·exact .inl h
     ·exact .inr ⟨.inr h,fun e=>hn.1 (e▸jP.2 ⟨p,h,rfl⟩)⟩
    ·rintro (h|⟨h|h,h2⟩)
     ·exact .inl h
     ·exact absurd (congrArg eP h) h2
     ·exact .inr h
   ·rename_i e;rw[aG,aG,Rc hn.2 s k p];constructor
    ·rintro (h|h|h)
     ·exact .inr ⟨.inl h,fun q=>e ((congrArg eP h).symm.trans q)⟩
     ·exact .inl h
     ·exact .inr ⟨.inr h.1,h.2⟩
    ·rintro (h|⟨h|h,h2⟩)
     ·exact .inr (.inl h)
     ·exact .inl h
     ·exact .inr (.inr ⟨h,h2⟩)
theorem zM (k:Int):∀(l:List Nat) {a:List (List Int × Int)},(a.map eP).Nodup->∀p:List Int × Int,p∈pk k a (l.map bW) ↔ (p.2=k/\p.1∈l.map bW)\/(p∈a/\p.1∉l.map bW)
 |[],a,hn,p=>by simp[pk]
 |R::r,a,hn,p=>by
   have e:pk k a ((R::r).map bW)=pk k (iH a (bW R) k) (r.map bW):=rfl;rw[e,zM k r (IZ hn _ _),Rc hn,dp,aG];obtain⟨s,z⟩:=p;simp only[Prod.mk.injEq,ne_eq,not_or];by_cases q1:s=bW R
   ·by_cases q2:s∈r.map bW
    ·constructor
     ·rintro (h|⟨_,h⟩)
      ·exact .inl ⟨h.1,.inl q1⟩
      ·exact absurd q2 h
     ·rintro (h|⟨_,h,_⟩)
      ·exact .inl ⟨h.1,q2⟩
      ·exact absurd q1 h
    ·constructor
     ·rintro (h|⟨h|h,_⟩)
      ·exact absurd h.2 q2
      ·exact .inl ⟨h.2,.inl q1⟩
      ·exact absurd q1 h.2
     ·rintro (h|⟨_,h,_⟩)
      ·exact .inr ⟨.inl ⟨q1,h.1⟩,q2⟩
      ·exact absurd q1 h
   ·simp[q1]
theorem Om {k:Int} {l:List Nat} {a:List (List Int × Int)} (h:(a.map eP).Nodup):((pk k a (l.map bW)).map eP).Nodup:=CP k l a h
section
variable {A:List Nat} {L:List Int} (hl:∀k,En L k<18446744073709551616)
include hl
theorem amu {k n:Nat} {a b:List (List Int × Int)} (h:Xs A L k n a b):(a.map eP).Nodup->(∀p∈a,∃j,j<k/\p.2=(j:Int)/\IsG A L j p.1)->∀p∈b,∃j,j<k+n/\p.2=(j:Int)/\IsG A L j p.1:=by
 induction h with
 |nil k a=>exact fun _ h=>h
 |cons k n a b l h1 h2 ih=>
   intro hn ha p hp;have g:=aeW h1 (hl k) fun _ h=>h
   obtain⟨j,j1,j2⟩:=ih (Om hn) (fun p hp=>by
    rcases (zM _ l hn p).1 hp with⟨e,hp⟩|⟨hp,_⟩
    ·obtain⟨R,hR,e2⟩:=jP.1 hp;exact⟨k,by omega,e,R,g.1 R hR,e2.symm⟩
    ·obtain⟨j,j1,j2⟩:=ha p hp;exact⟨j,by omega,j2⟩) p hp
   exact⟨j,by omega,j2⟩
theorem amv (hS:Im A) {k n:Nat} {a b:List (List Int × Int)} (h:Xs A L k n a b):(a.map eP).Nodup ->
  (∀(s:List Int) (z:Int),(s,z)∈a->z<=k->∃y,z<=y/\(s,y)∈b)/\∀ (s:List Int) (j:Nat),k<=j->j<k+n->IsG A L j s->∃y:Int,(j:Int)<=y/\(s,y)∈b:=by
 induction h with
 |nil k a=>exact fun _=>⟨fun s z h _=>⟨z,Int.le_refl _,h⟩,fun s j h1 h2=>by omega⟩
 |cons k n a b l h1 h2 ih=>
   intro hn;obtain⟨i1,i2⟩:=ih (Om hn);have g:=aeW h1 (hl k) fun _ h=>h;refine⟨fun s z hz hk=>?_,fun s j j1 j2 hs=>?_⟩
   ·by_cases q:s∈l.map bW
    ·obtain⟨y,y1,y2⟩:=i1 s k ((zM _ l hn _).2 (.inl ⟨rfl,q⟩)) (by omega);exact⟨y,by omega,y2⟩
    ·exact i1 s z ((zM _ l hn _).2 (.inr ⟨hz,q⟩)) (by omega)
   ·rcases Nat.eq_or_lt_of_le j1 with rfl|j1
    ·obtain⟨R,r1,rfl⟩:=hs;obtain⟨v,v1,v2⟩:=r1;obtain⟨S,s1,s2⟩:=g.2 v v1
     have e:R=S:=by
      have a1:=Lv hS (fun _ h=>h) ⟨v,v1,v2⟩ (g.1 S s1) (v2.sub v (wk v)) s2;have a2:=Lv hS (fun _ h=>h) (g.1 S s1) ⟨v,v1,v2⟩ s2 (v2.sub v (wk v));apply Nat.eq_of_testBit_eq;intro i;cases q:S.testBit i with
      |true=>exact a2 i q
      |false=>cases q2:R.testBit i with
        |true=>rw[a1 i q2] at q; cases q
        |false=>rfl
     subst e;exact i1 _ k ((zM _ l hn _).2 (.inl ⟨rfl,jP.2 ⟨R,s1,rfl⟩⟩)) (by omega)
    ·exact i2 s j j1 (by omega) hs
end
/- slices.Max. -/
def SG (m:Int) (L:List Int):Int:=L.foldl (fun a b=>max a b) m
theorem aeb:∀(L:List Int) (m:Int),m<=SG m L/\(∀x∈L,x<=SG m L)/\(SG m L=m\/SG m L∈L)
 |[],m=>⟨Int.le_refl _,fun x h=>absurd h tW,.inl rfl⟩
 |y::L,m=>by
   obtain⟨a,b,c⟩:=aeb L (max m y);change m<=SG (max m y) L/\(∀x∈y::L,x<=SG (max m y) L)/\(SG (max m y) L=m\/SG (max m y) L∈y::L);refine⟨by omega,fun x h=>?_,?_⟩
   ·rcases aG.1 h with rfl|h
    ·omega
    ·exact b x h
   ·rcases c with c|c
    ·by_cases q:m<=y
     ·right; rw[c]; rw[Int.max_eq_right q]; exact cF
     ·left; rw[c]; omega
    ·right; exact cH _ c
theorem aak (L:List Int) (hL:L.length<1000000):∀(n i:Nat) (m:Int),i+n=L.length->aY an 0 (.loop aaz) ⟨[(0,.list 1 (ints L)),(3,.int .i64 m),(4,.int .i64 i)],[]⟩=some (.exit 0,⟨[(0,.list 1 (ints L)),(3,.int .i64 (SG m (L.drop i))),(4,.int .i64 L.length),(15,.bool false)],[]⟩)
 |0,i,m,h=>by
   have e:i=L.length:=by omega
   rw[e,List.drop_length];refine bt ?_;show _=some (Ex.exit 0,(⟨[(0,.list 1 (ints L)),(3,.int .i64 m),(4,.int .i64 L.length),(15,.bool false)],[]⟩:St));unfold aaz;simp[Zb,Za,Y9,Y8,Y7,Y6,Y5,Y4,Y3,ah,aJ,aL,bz,cM,dG,aI,aP,aH,ah,aN,aZ,bM,bI]
 |n+1,i,m,h=>by
   have hi:i<L.length:=by omega
   have i1:(i:Int)<L.length:=by omega
   have w:=dO (i:=i) (by omega);rw[bg hi];have qm:(if m<L[i] then L[i] else m)=max m L[i]:=by split<;>omega
   have e:SG m (L[i]::L.drop (i+1))=SG (max m L[i]) (L.drop (i+1)):=rfl;rw[e];refine (aV ?_).trans (aak L hL n (i+1) (max m L[i]) (by omega));unfold aaz;simp[Zb,Za,Y9,Y8,Y7,Y6,Y5,Y4,Y3,ah,i1,hi,w,qm,aZ,idx,aJ,aL,bz,cM,dG,aI,aP,aH,ah,aN,aZ,bM,bI]
theorem ag0 (d:Int) (L:List Int) (hL:L.length<900000):bu an nQC [.list 1 (ints (d::L))] []=some (.int .i64 (SG d L),[]):=by
 rw[eO sQC (Nat.le_of_ble_eq_true rfl)];have lp:=aak (d::L) (by simp; omega) L.length 1 d (by simp; omega);rw[nat1] at lp;change _=some (Ex.exit 0,(⟨[(0,.list 1 (ints (d::L))),(3,.int .i64 (SG d L)),(4,.int .i64 ((d::L).length:Nat)),(15,.bool false)],[]⟩:St)) at lp;have q1:¬(L.length:Int)+1<1:=by omega
 rw[jV] at lp ⊢;unfold qQC cQC;simp[Zb,Za,Y9,Y8,Y7,Y6,Y5,Y4,Y3,lp,q1,ah,idx,aJ,aL,bz,cM,dG,aI,aP,aH,ah,aN,aZ,bM,bI]
end Go.BmP
