/- hierarchy.gathered: the levels of the parts. -/
import Derived.Test.YtbnheahpdodmjabGreatDoorHcN
set_option linter.unusedSimpArgs false
set_option linter.unusedVariables false
set_option maxRecDepth 100000
set_option maxHeartbeats 8000000
open Bool renaming and_eq_true → ae
open List renaming drop_eq_getElem_cons → bz, getElem_mem → mV, length_map → aX, length_take → bD, map_cons → eQ, mem_cons → aO, mem_cons_of_mem → cK, mem_cons_self → cI, mem_map → jZ, nodup_cons → mh, not_mem_nil → uR
open Nat renaming testBit_two_pow → xR
open Option.some renaming inj → bj, injEq → af
open Prod renaming fst → eU
namespace Go.BmP
open Go.Am Go.Bm
def LQ (a:List (List Int × Int)) (i:Nat):List AV:=(a.take i).map (fun p=>bw (p.2,-1,p.1))++(a.drop i).map fun p=>bw (0,-1,p.1)
theorem afW (a:List (List Int × Int)):LQ a 0=rh a:=by simp[LQ,rh]
theorem aiD (a:List (List Int × Int)):LQ a a.length=a.map fun p=>bw (p.2,-1,p.1):=by simp[LQ]
theorem Dr (a:List (List Int × Int)) (i:Nat):(LQ a i).length=a.length:=by simp[LQ]; omega
theorem amq (a:List (List Int × Int)) (i:Nat) (h:i<a.length):(LQ a i)[i]?=some (bw (0,-1,a[i].1)):=by
 unfold LQ;rw[List.getElem?_append_right (by rw[aX,bD]; omega),aX,bD,Nat.min_eq_left (by omega),Nat.sub_self,List.getElem?_map,List.getElem?_drop];simp[h]
theorem aiC (a:List (List Int × Int)) (i:Nat) (h:i<a.length):(LQ a i).set i (bw (a[i].2,-1,a[i].1))=LQ a (i+1):=by
 unfold LQ;rw[List.set_append_right _ _ (by rw[aX,bD]; omega),aX,bD,Nat.min_eq_left (by omega),Nat.sub_self,bz h,eQ,List.set_cons_zero,List.take_succ_eq_append_getElem h,List.map_append];simp
theorem ab8:∀(a:List (List Int × Int)),(a.map eU).Nodup->∀(i j:Nat) (h:i<a.length),∃n,rC a a[i].1 j=some (n,.int .i64 a[i].2)
 |[],_,i,_,h=>by simp at h
 |(t,z)::r,hn,0,j,h=>⟨j,by simp[rC]⟩
 |(t,z)::r,hn,i+1,j,h=>by
   rw[eQ,mh] at hn;have hi:i<r.length:=by simpa using h
   obtain⟨n,hf⟩:=ab8 r hn.2 i (j+1) hi;refine⟨n,?_⟩;have qF:¬t=r[i].1:=fun e=>hn.1 (jZ.2 ⟨r[i],mV _,e.symm⟩);simp only[List.getElem_cons_succ];unfold rC;rw[if_neg qF]; exact hf
theorem Qc:∀(a:List (List Int × Int)) (s:List Int) (i:Nat),(rC a s i).isSome=false->s∉a.map eU
 |[],s,i,_=>by simp
 |(t,z)::r,s,i,h=>by
   unfold rC at h;split at h
   ·cases h
   ·rename_i e;rw[eQ,aO,not_or];exact⟨fun k=>e k.symm,Qc r s _ h⟩
theorem Jb {a:List (List Int × Int)} (h:(a.map eU).Nodup) (s:List Int) (k:Int):((iQ a s k).map eU).Nodup:=by
 rw[AZ];split
 ·exact h
 ·rename_i e;have:=Qc a s 0 (by simpa using e);rw[List.nodup_append];exact⟨h,by simp,fun x hx y hy=>by simp at hy; subst hy; intro e2; subst e2; exact this hx⟩
theorem Dq (k:Int):∀(l:List Nat) (a:List (List Int × Int)),(a.map eU).Nodup->((pZ k a (l.map bZ)).map eU).Nodup
 |[],a,h=>h
 |R::r,a,h=>Dq k r (iQ a (bZ R) k) (Jb h _ _)
theorem LP {A:List Nat} {L:List Int} {k n:Nat} {a b:List (List Int × Int)} (h:YR A L k n a b):(a.map eU).Nodup->(b.map eU).Nodup:=by
 induction h with
 |nil=>exact id
 |cons k n a b l _ _ ih=>exact fun h=>ih (Dq _ l a h)
def Yh (N:Nat) (Y O1 L1:List AV) (a:List (List Int × Int)) (i:Nat) (J:Env):St:=
 ⟨(5,qp 5)::(6,.own 3 (LQ a i))::(50,.int .i64 a.length)::(51,.int .i64 i)::J,hH N Y O1 L1 (DD a)⟩
theorem agE {N:Nat} {Y:List AV} (o L:List Int) (a:List (List Int × Int)) (ha:∀p∈a,Lo p.1) (hn:(a.map eU).Nodup) (SG:a.length<=900) (iZ:∀p∈a,p.1.length<=64) (i:Nat) (hi:i<a.length) :
  aW aq 5 UR (Yh N Y (ints o) (ints L) a i [])=some (.normal,Yh N Y (ints o) (ints L) a (i+1) []):=by
 have k1:(i:Int)<a.length:=by omega
 have hw:=dA (i:=i) (by omega);have hm:a[i]∈a:=mV hi;have hs:=ha _ hm;have kr:=RC a[i].1 (by have:=iZ _ hm; omega) hs;obtain⟨n,hf⟩:=ab8 a hn i 0 hi;have mf:=Bf hs ha 0;rw[hf] at mf
 have kq:Bi .Du (.str (oB a[i].1)) (.str (oB a[i].1))=some true:=by
  simp only[Bi,af]; exact (MapKept.bytes_beq _ _).2 rfl
 have la:=Dr a i;have g3:=amq a i hi;have bE:i<(LQ a i).length:=by rw[la]; exact hi
 have g4:∀h,(LQ a i)[i]'h=bw (0,-1,a[i].1):=fun h=>by
  rw[List.getElem?_eq_getElem h] at g3;exact bj g3
 have st:=aiC a i hi;have x1:=vj (bg o);have x2:=vj (bg L);have x3:=E0 (qb a);obtain⟨a1,a2,a3,a4,a5,a6,a7,a8,a9,aa,ab⟩:=bg o;obtain⟨b1,b2,b3,b4,b5,b6,b7,b8,b9,ba,bb⟩:=bg L;obtain⟨c1,c2,c3,c4,c5,c6,c8⟩:=qb a;unfold Yh hH uh qp;rw[<-st];unfold bw at *;generalize LQ a i=P1 at *;generalize DD a=E1 at *;generalize oB a[i].1=K at *;generalize ints a[i].1=S1 at *;generalize a[i].2=z at *;generalize ints o=O1 at *;generalize ints L=L1 at *;unfold UR;simp[rf,rb,q9,q8,q7,q6,qZ,qY,qX,qW,lC,lx,lr,lk,lj,lg,k9,k8,k7,kZ,kY,kX,kW,kV,kU,kT,kS,kR,kQ,kP,kO,kN,k1,hw,g3,g4,la,hi,bE,kr,mf,kq,x1,x2,x3,a1,a2,a3,a4,a5,a6,a7,a8,a9,aa,ab,b1,b2,b3,b4,b5,b6,b7,b8,b9,ba,bb,c1,c2,c3,c4,c5,c6,c8,mapOf,qp,mgv,idx,aH,dc,pl,kB,fz,FG,fa,sQ1,iQ1]
theorem ab2 {N:Nat} {Y:List AV} (o L:List Int) (a:List (List Int × Int)) (ha:∀p∈a,Lo p.1) (hn:(a.map eU).Nodup) (SG:a.length<=900) (iZ:∀p∈a,p.1.length<=64):∀(n i:Nat),i+n=a.length ->
  aW aq 5 (.loop UR) (Yh N Y (ints o) (ints L) a i [])=some (.exit 4,Yh N Y (ints o) (ints L) a a.length [(52,.bool false)])
 |0,i,hi=>by
   obtain rfl:i=a.length:=by omega
   refine bn ?_;have la:=Dr a a.length;unfold Yh hH uh qp;generalize LQ a a.length=P1 at *;generalize DD a=E1 at *;generalize ints o=O1 at *;generalize ints L=L1 at *;unfold UR;simp[rf,rb,q9,q8,q7,q6,qZ,qY,qX,qW,lC,lx,lr,lk,lj,lg,k9,k8,k7,kZ,kY,kX,kW,kV,kU,kT,kS,kR,kQ,kP,kO,kN]
 |n+1,i,hi=>(aS (agE o L a ha hn SG iZ i (by omega))).trans (ab2 o L a ha hn SG iZ n (i+1) (by omega))
/- The hierarchy of cores, plain: the groups of all levels. -/
def Grp (A:List Nat) (m R:Nat):Prop:=∃v:Nat,m.testBit v=true/\pT A m (2 ^ v) R
theorem wV (v:Nat):(2 ^ v).testBit v=true:=by rw[xR]; simp
theorem tL {v j:Nat} (h:(2 ^ v).testBit j=true):j=v:=by
 rw[xR] at h;exact (of_decide_eq_true h).symm
theorem agx {A:List Nat} {m r:Nat} {l:List Nat} (h:FE A m r l):r<18446744073709551616->(∀j,r.testBit j=true->m.testBit j=true)->(∀R∈l,Grp A m R)/\∀ v,r.testBit v=true->∃R∈l,R.testBit v=true:=by
 induction h with
 |nil=>exact fun _ _=>⟨fun R hR=>absurd hR uR,fun v hv=>by simp at hv⟩
 |cons r R l h0 h1 h2 ih=>
   intro hr hm;obtain⟨tb,_⟩:=zm h0 hr;have nb:=fun j=>vw hr h1.lt j;obtain⟨i1,i2⟩:=ih (Nat.lt_of_le_of_lt Nat.and_le_left hr) fun j hj=>hm j (by rw[nb,ae] at hj; exact hj.1);refine⟨fun S hS=>?_,fun v hv=>?_⟩
   ·rcases aO.1 hS with rfl|hS
    ·exact⟨tz r,hm _ tb,h1⟩
    ·exact i1 S hS
   ·cases q:R.testBit v with
    |true=>exact⟨R,cI,q⟩
    |false=>
      obtain⟨S,s1,s2⟩:=i2 v (by rw[nb,hv,q]; rfl);exact⟨S,cK _ s1,s2⟩
theorem Ms {A:List Nat} (hS:GK A) {m m' R R' w:Nat} (hm:Og m m') (h:Grp A m R) (h':Grp A m' R') (hw:R.testBit w=true) (hw':R'.testBit w=true):Og R R':=by
 obtain⟨v,v1,v2⟩:=h;obtain⟨v',v3,v4⟩:=h'
 have c1:=v2.least (fun u=>m.testBit u=true/\(R'.testBit u=true->R'.testBit v=true)) (fun j hj=>by
  obtain rfl:=tL hj;exact⟨v1,id⟩) (fun j k hj hjk hk=>⟨hk,fun hk'=>hj.2 (v4.cl k j hk' (by rw[hS k j]; exact hjk) (hm _ hj.1))⟩) w hw
 have c2:=c1.2 hw'
 exact fun j hj=>v2.least (fun u=>R'.testBit u=true) (fun j hj=>by
  obtain rfl:=tL hj;exact c2) (fun j k hj hjk hk=>v4.cl j k hj hjk (hm _ hk)) j hj
theorem Yb {A:List Nat} {m R:Nat} (h:Grp A m R):R<18446744073709551616:=by
 obtain⟨v,_,h⟩:=h;exact h.lt
theorem ajG {R j:Nat} (h:R<18446744073709551616) (hj:R.testBit j=true):j<64:=by
 apply Nat.lt_of_not_le;intro q
 have:R.testBit j=false:=Nat.testBit_lt_two_pow (Nat.lt_of_lt_of_le h (by
  rw[show (18446744073709551616:Nat)=2 ^ 64 from rfl];exact Nat.pow_le_pow_right (by decide) q))
 rw[this] at hj;cases hj
theorem iO {R:Nat} (h:R<18446744073709551616) {j:Nat}:(j:Int)∈bZ R ↔ R.testBit j=true:=by
 rw[gk];constructor
 ·rintro⟨i,e,_,hi⟩;obtain rfl:j=i:=by omega
  exact hi
 ·exact fun hj=>⟨j,rfl,ajG h hj,hj⟩
abbrev EZ (L:List Int) (k:Nat):Nat:=Vz (k:Int) L 0 0
theorem EY {L:List Int} {k j:Nat}:(EZ L k).testBit j=true ↔ j<L.length/\(k:Int)<=L.getD j 0:=by
 rw[RU,Nat.zero_testBit,Bool.false_or,ae,ae,decide_eq_true_eq,decide_eq_true_eq,decide_eq_true_eq,Nat.sub_zero];exact⟨fun h=>⟨h.1.2,h.2⟩,fun h=>⟨⟨Nat.zero_le _,h.1⟩,h.2⟩⟩
theorem aiB {L:List Int} {j k:Nat} (h:j<=k):Og (EZ L k) (EZ L j):=fun i hi=>by
 rw[EY] at *;exact⟨hi.1,by omega⟩
def IsG (A:List Nat) (L:List Int) (k:Nat) (s:List Int):Prop:=∃R,Grp A (EZ L k) R/\s=bZ R
theorem SQ:∀{a:List (List Int × Int)},(a.map eU).Nodup->∀(s:List Int) (k:Int) (p:List Int × Int),p∈iQ a s k ↔ p=(s,k)\/(p∈a/\p.1≠s)
 |[],_,s,k,p=>by simp[iQ]
 |(t,j)::r,hn,s,k,p=>by
   rw[eQ,mh] at hn;unfold iQ;split
   ·rename_i e;subst e;rw[aO,aO];constructor
    ·rintro (h|h)
     ·exact .inl h
     ·exact .inr ⟨.inr h,fun e=>hn.1 (e▸jZ.2 ⟨p,h,rfl⟩)⟩
    ·rintro (h|⟨h|h,h2⟩)
     ·exact .inl h
     ·exact absurd (congrArg eU h) h2
     ·exact .inr h
   ·rename_i e;rw[aO,aO,SQ hn.2 s k p];constructor
    ·rintro (h|h|h)
     ·exact .inr ⟨.inl h,fun q=>e ((congrArg eU h).symm.trans q)⟩
     ·exact .inl h
     ·exact .inr ⟨.inr h.1,h.2⟩
    ·rintro (h|⟨h|h,h2⟩)
     ·exact .inr (.inl h)
     ·exact .inl h
     ·exact .inr (.inr ⟨h,h2⟩)
theorem Ah (k:Int):∀(l:List Nat) {a:List (List Int × Int)},(a.map eU).Nodup->∀p:List Int × Int,p∈pZ k a (l.map bZ) ↔ (p.2=k/\p.1∈l.map bZ)\/(p∈a/\p.1∉l.map bZ)
 |[],a,hn,p=>by simp[pZ]
 |R::r,a,hn,p=>by
   have e:pZ k a ((R::r).map bZ)=pZ k (iQ a (bZ R) k) (r.map bZ):=rfl;rw[e,Ah k r (Jb hn _ _),SQ hn,eQ,aO];obtain⟨s,z⟩:=p;simp only[Prod.mk.injEq,ne_eq,not_or];by_cases q1:s=bZ R
   ·by_cases q2:s∈r.map bZ
    ·constructor
     ·rintro (h|⟨_,h⟩)
      ·exact .inl ⟨h.1,.inl q1⟩
      ·exact absurd q2 h
     ·rintro (h|⟨_,h,_⟩)
      ·exact .inl ⟨h.1,q2⟩
      ·exact absurd q1 h
    ·constructor
     ·rintro (h|⟨h|h,_⟩)
      ·exact absurd h.2 q2
      ·exact .inl ⟨h.2,.inl q1⟩
      ·exact absurd q1 h.2
     ·rintro (h|⟨_,h,_⟩)
      ·exact .inr ⟨.inl ⟨q1,h.1⟩,q2⟩
      ·exact absurd q1 h
   ·simp[q1]
theorem PB {k:Int} {l:List Nat} {a:List (List Int × Int)} (h:(a.map eU).Nodup):((pZ k a (l.map bZ)).map eU).Nodup:=Dq k l a h
section
variable {A:List Nat} {L:List Int} (hl:∀k,EZ L k<18446744073709551616)
include hl
theorem anM {k n:Nat} {a b:List (List Int × Int)} (h:YR A L k n a b):(a.map eU).Nodup->(∀p∈a,∃j,j<k/\p.2=(j:Int)/\IsG A L j p.1)->∀p∈b,∃j,j<k+n/\p.2=(j:Int)/\IsG A L j p.1:=by
 induction h with
 |nil k a=>exact fun _ h=>h
 |cons k n a b l h1 h2 ih=>
   intro hn ha p hp;have g:=agx h1 (hl k) fun _ h=>h
   obtain⟨j,j1,j2⟩:=ih (PB hn) (fun p hp=>by
    rcases (Ah _ l hn p).1 hp with⟨e,hp⟩|⟨hp,_⟩
    ·obtain⟨R,hR,e2⟩:=jZ.1 hp;exact⟨k,by omega,e,R,g.1 R hR,e2.symm⟩
    ·obtain⟨j,j1,j2⟩:=ha p hp;exact⟨j,by omega,j2⟩) p hp
   exact⟨j,by omega,j2⟩
theorem anN (hS:GK A) {k n:Nat} {a b:List (List Int × Int)} (h:YR A L k n a b):(a.map eU).Nodup ->
  (∀(s:List Int) (z:Int),(s,z)∈a->z<=k->∃y,z<=y/\(s,y)∈b)/\∀ (s:List Int) (j:Nat),k<=j->j<k+n->IsG A L j s->∃y:Int,(j:Int)<=y/\(s,y)∈b:=by
 induction h with
 |nil k a=>exact fun _=>⟨fun s z h _=>⟨z,Int.le_refl _,h⟩,fun s j h1 h2=>by omega⟩
 |cons k n a b l h1 h2 ih=>
   intro hn;obtain⟨i1,i2⟩:=ih (PB hn);have g:=agx h1 (hl k) fun _ h=>h;refine⟨fun s z hz hk=>?_,fun s j j1 j2 hs=>?_⟩
   ·by_cases q:s∈l.map bZ
    ·obtain⟨y,y1,y2⟩:=i1 s k ((Ah _ l hn _).2 (.inl ⟨rfl,q⟩)) (by omega);exact⟨y,by omega,y2⟩
    ·exact i1 s z ((Ah _ l hn _).2 (.inr ⟨hz,q⟩)) (by omega)
   ·rcases Nat.eq_or_lt_of_le j1 with rfl|j1
    ·obtain⟨R,r1,rfl⟩:=hs;obtain⟨v,v1,v2⟩:=r1;obtain⟨S,s1,s2⟩:=g.2 v v1
     have e:R=S:=by
      have a1:=Ms hS (fun _ h=>h) ⟨v,v1,v2⟩ (g.1 S s1) (v2.sub v (wV v)) s2;have a2:=Ms hS (fun _ h=>h) (g.1 S s1) ⟨v,v1,v2⟩ s2 (v2.sub v (wV v));apply Nat.eq_of_testBit_eq;intro i;cases q:S.testBit i with
      |true=>exact a2 i q
      |false=>cases q2:R.testBit i with
        |true=>rw[a1 i q2] at q; cases q
        |false=>rfl
     subst e;exact i1 _ k ((Ah _ l hn _).2 (.inl ⟨rfl,jZ.2 ⟨R,s1,rfl⟩⟩)) (by omega)
    ·exact i2 s j j1 (by omega) hs
end
/- slices.Max. -/
def Ue (m:Int) (L:List Int):Int:=L.foldl (fun a b=>max a b) m
theorem afI:∀(L:List Int) (m:Int),m<=Ue m L/\(∀x∈L,x<=Ue m L)/\(Ue m L=m\/Ue m L∈L)
 |[],m=>⟨Int.le_refl _,fun x h=>absurd h uR,.inl rfl⟩
 |y::L,m=>by
   obtain⟨a,b,c⟩:=afI L (max m y);change m<=Ue (max m y) L/\(∀x∈y::L,x<=Ue (max m y) L)/\(Ue (max m y) L=m\/Ue (max m y) L∈y::L);refine⟨by omega,fun x h=>?_,?_⟩
   ·rcases aO.1 h with rfl|h
    ·omega
    ·exact b x h
   ·rcases c with c|c
    ·by_cases q:m<=y
     ·right; rw[c]; rw[Int.max_eq_right q]; exact cI
     ·left; rw[c]; omega
    ·right; exact cK _ c
theorem abu (L:List Int) (hL:L.length<1000000):∀(n i:Nat) (m:Int),i+n=L.length->aW aq 0 (.loop abM) ⟨[(0,.list 1 (ints L)),(3,.int .i64 m),(4,.int .i64 i)],[]⟩=some (.exit 0,⟨[(0,.list 1 (ints L)),(3,.int .i64 (Ue m (L.drop i))),(4,.int .i64 L.length),(15,.bool false)],[]⟩)
 |0,i,m,h=>by
   have e:i=L.length:=by omega
   rw[e,List.drop_length];refine bn ?_;show _=some (Ex.exit 0,(⟨[(0,.list 1 (ints L)),(3,.int .i64 m),(4,.int .i64 L.length),(15,.bool false)],[]⟩:St));unfold abM;simp[aar,aaq,aap,aao,aan,aam,aal,aak,aaj,ah,aH,aN,bI,cV,dY,aM,aR,aK,ah,aQ,bu,bL,bC]
 |n+1,i,m,h=>by
   have hi:i<L.length:=by omega
   have i1:(i:Int)<L.length:=by omega
   have w:=dA (i:=i) (by omega);rw[bz hi];have qm:(if m<L[i] then L[i] else m)=max m L[i]:=by split<;>omega
   have e:Ue m (L[i]::L.drop (i+1))=Ue (max m L[i]) (L.drop (i+1)):=rfl;rw[e];refine (aS ?_).trans (abu L hL n (i+1) (max m L[i]) (by omega));unfold abM;simp[aar,aaq,aap,aao,aan,aam,aal,aak,aaj,ah,i1,hi,w,qm,bu,idx,aH,aN,bI,cV,dY,aM,aR,aK,ah,aQ,bu,bL,bC]
theorem aiA (d:Int) (L:List Int) (hL:L.length<900000):bJ aq nQK [.list 1 (ints (d::L))] []=some (.int .i64 (Ue d L),[]):=by
 rw[dZ sQK (Nat.le_of_ble_eq_true rfl)];have lp:=abu (d::L) (by simp; omega) L.length 1 d (by simp; omega);rw[nat1] at lp;change _=some (Ex.exit 0,(⟨[(0,.list 1 (ints (d::L))),(3,.int .i64 (Ue d L)),(4,.int .i64 ((d::L).length:Nat)),(15,.bool false)],[]⟩:St)) at lp;have q1:¬(L.length:Int)+1<1:=by omega
 rw[kc] at lp ⊢;unfold qQK cQK;simp[aar,aaq,aap,aao,aan,aam,aal,aak,aaj,lp,q1,ah,idx,aH,aN,bI,cV,dY,aM,aR,aK,ah,aQ,bu,bL,bC]
end Go.BmP
