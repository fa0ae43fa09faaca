/- hierarchy.gathered: the levels of the parts. -/
import Derived.Test.YtpimmjklbakckaaDoorHcN
set_option linter.unusedSimpArgs false
set_option linter.unusedVariables false
set_option maxRecDepth 100000
set_option maxHeartbeats 8000000
open Bool renaming and_eq_true → ae
open List renaming drop_eq_getElem_cons → cm, getElem_mem → xE, length_map → cS, length_take → bg, map_cons → eJ, mem_cons → aK, mem_cons_of_mem → eH, mem_cons_self → fP, mem_map → rS, nodup_cons → xD, not_mem_nil → u5
open Nat renaming testBit_two_pow → tZ
open Option.some renaming inj → bJ, injEq → af
open Prod renaming fst → dW
namespace Go.BmP
open Go.Am Go.Bm
def Ef (a:List (List Int × Int)) (i:Nat):List AV:=(a.take i).map (fun p=>en (p.2,-1,p.1))++(a.drop i).map fun p=>en (0,-1,p.1)
theorem Wl (a:List (List Int × Int)):Ef a 0=oN a:=by simp[Ef,oN]
theorem Zu (a:List (List Int × Int)):Ef a a.length=a.map fun p=>en (p.2,-1,p.1):=by simp[Ef]
theorem yD (a:List (List Int × Int)) (i:Nat):(Ef a i).length=a.length:=by simp[Ef]; omega
theorem adu (a:List (List Int × Int)) (i:Nat) (h:i<a.length):(Ef a i)[i]?=some (en (0,-1,a[i].1)):=by
 unfold Ef;rw[List.getElem?_append_right (by rw[cS,bg]; omega),cS,bg,Nat.min_eq_left (by omega),Nat.sub_self,List.getElem?_map,List.getElem?_drop];simp[h]
theorem Zt (a:List (List Int × Int)) (i:Nat) (h:i<a.length):(Ef a i).set i (en (a[i].2,-1,a[i].1))=Ef a (i+1):=by
 unfold Ef;rw[List.set_append_right _ _ (by rw[cS,bg]; omega),cS,bg,Nat.min_eq_left (by omega),Nat.sub_self,cm h,eJ,List.set_cons_zero,List.take_succ_eq_append_getElem h,List.map_append];simp
theorem RS:∀(a:List (List Int × Int)),(a.map dW).Nodup->∀(i j:Nat) (h:i<a.length),∃n,oV a a[i].1 j=some (n,.int .i64 a[i].2)
 |[],_,i,_,h=>by simp at h
 |(t,z)::r,hn,0,j,h=>⟨j,by simp[oV]⟩
 |(t,z)::r,hn,i+1,j,h=>by
   rw[eJ,xD] at hn;have hi:i<r.length:=by simpa using h
   obtain⟨n,hf⟩:=RS r hn.2 i (j+1) hi;refine⟨n,?_⟩;have tn:¬t=r[i].1:=fun e=>hn.1 (rS.2 ⟨r[i],xE _,e.symm⟩);simp only[List.getElem_cons_succ];unfold oV;rw[if_neg tn]; exact hf
theorem Hh:∀(a:List (List Int × Int)) (s:List Int) (i:Nat),(oV a s i).isSome=false->s∉a.map dW
 |[],s,i,_=>by simp
 |(t,z)::r,s,i,h=>by
   unfold oV at h;split at h
   ·cases h
   ·rename_i e;rw[eJ,aK,not_or];exact⟨fun k=>e k.symm,Hh r s _ h⟩
theorem CS {a:List (List Int × Int)} (h:(a.map dW).Nodup) (s:List Int) (k:Int):((iV a s k).map dW).Nodup:=by
 rw[wC];split
 ·exact h
 ·rename_i e;have:=Hh a s 0 (by simpa using e);rw[List.nodup_append];exact⟨h,by simp,fun x hx y hy=>by simp at hy; subst hy; intro e2; subst e2; exact this hx⟩
theorem yC (k:Int):∀(l:List Nat) (a:List (List Int × Int)),(a.map dW).Nodup->((rh k a (l.map cI)).map dW).Nodup
 |[],a,h=>h
 |R::r,a,h=>yC k r (iV a (cI R) k) (CS h _ _)
theorem Ee {A:List Nat} {L:List Int} {k n:Nat} {a b:List (List Int × Int)} (h:Yp A L k n a b):(a.map dW).Nodup->(b.map dW).Nodup:=by
 induction h with
 |nil=>exact id
 |cons k n a b l _ _ ih=>exact fun h=>ih (yC _ l a h)
def N6 (N:Nat) (Y O1 L1:List AV) (a:List (List Int × Int)) (i:Nat) (J:Env):St:=
 ⟨(5,nB 5)::(6,.own 3 (Ef a i))::(50,.int .i64 a.length)::(51,.int .i64 i)::J,hH N Y O1 L1 (yQ a)⟩
theorem Xh {N:Nat} {Y:List AV} (o L:List Int) (a:List (List Int × Int)) (ha:∀p∈a,Lo p.1) (hn:(a.map dW).Nodup) (Jv:a.length<=900) (qe:∀p∈a,p.1.length<=64) (i:Nat) (hi:i<a.length) :
  bh aD 5 K3 (N6 N Y (ints o) (ints L) a i [])=some (.normal,N6 N Y (ints o) (ints L) a (i+1) []):=by
 have k1:(i:Int)<a.length:=by omega
 have hw:=fT (i:=i) (by omega);have hm:a[i]∈a:=xE hi;have hs:=ha _ hm;have kr:=IC a[i].1 (by have:=qe _ hm; omega) hs;obtain⟨n,hf⟩:=RS a hn i 0 hi;have mf:=wR hs ha 0;rw[hf] at mf
 have kq:wV .yE (.str (kV a[i].1)) (.str (kV a[i].1))=some true:=by
  simp only[wV,af]; exact (MapKept.bytes_beq _ _).2 rfl
 have la:=yD a i;have g3:=adu a i hi;have bY:i<(Ef a i).length:=by rw[la]; exact hi
 have g4:∀h,(Ef a i)[i]'h=en (0,-1,a[i].1):=fun h=>by
  rw[List.getElem?_eq_getElem h] at g3;exact bJ g3
 have st:=Zt a i hi;have x1:=rH (bT o);have x2:=rH (bT L);have x3:=zO (mU a);obtain⟨a1,a2,a3,a4,a5,a6,a7,a8,a9,aa,ab⟩:=bT o;obtain⟨b1,b2,b3,b4,b5,b6,b7,b8,b9,ba,bb⟩:=bT L;obtain⟨c1,c2,c3,c4,c5,c6,c8⟩:=mU a;unfold N6 hH qa nB;rw[<-st];unfold en at *;generalize Ef a i=P1 at *;generalize yQ a=E1 at *;generalize kV a[i].1=K at *;generalize ints a[i].1=S1 at *;generalize a[i].2=z at *;generalize ints o=O1 at *;generalize ints L=L1 at *;unfold K3;simp[oC,oB,oA,ox,ot,oq,om,oi,oh,oe,jA,jz,jy,jx,jw,jv,ju,jt,js,jr,jq,jo,jm,jl,jj,ji,jh,jg,jf,je,jd,jc,k1,hw,g3,g4,la,hi,bY,kr,mf,kq,x1,x2,x3,a1,a2,a3,a4,a5,a6,a7,a8,a9,aa,ab,b1,b2,b3,b4,b5,b6,b7,b8,b9,ba,bb,c1,c2,c3,c4,c5,c6,c8,mapOf,nB,Tv,idx,aN,eC,pl,uF,fz,IY,gj,sQA,iQA]
theorem RM {N:Nat} {Y:List AV} (o L:List Int) (a:List (List Int × Int)) (ha:∀p∈a,Lo p.1) (hn:(a.map dW).Nodup) (Jv:a.length<=900) (qe:∀p∈a,p.1.length<=64):∀(n i:Nat),i+n=a.length ->
  bh aD 5 (.loop K3) (N6 N Y (ints o) (ints L) a i [])=some (.exit 4,N6 N Y (ints o) (ints L) a a.length [(52,.bool false)])
 |0,i,hi=>by
   obtain rfl:i=a.length:=by omega
   refine cv ?_;have la:=yD a a.length;unfold N6 hH qa nB;generalize Ef a a.length=P1 at *;generalize yQ a=E1 at *;generalize ints o=O1 at *;generalize ints L=L1 at *;unfold K3;simp[oC,oB,oA,ox,ot,oq,om,oi,oh,oe,jA,jz,jy,jx,jw,jv,ju,jt,js,jr,jq,jo,jm,jl,jj,ji,jh,jg,jf,je,jd,jc]
 |n+1,i,hi=>(bI (Xh o L a ha hn Jv qe i (by omega))).trans (RM o L a ha hn Jv qe n (i+1) (by omega))
/- The hierarchy of cores, plain: the groups of all levels. -/
def Grp (A:List Nat) (m R:Nat):Prop:=∃v:Nat,m.testBit v=true/\wj A m (2 ^ v) R
theorem Cu (v:Nat):(2 ^ v).testBit v=true:=by rw[tZ]; simp
theorem CV {v j:Nat} (h:(2 ^ v).testBit j=true):j=v:=by
 rw[tZ] at h;exact (of_decide_eq_true h).symm
theorem W9 {A:List Nat} {m r:Nat} {l:List Nat} (h:Jk A m r l):r<18446744073709551616->(∀j,r.testBit j=true->m.testBit j=true)->(∀R∈l,Grp A m R)/\∀ v,r.testBit v=true->∃R∈l,R.testBit v=true:=by
 induction h with
 |nil=>exact fun _ _=>⟨fun R hR=>absurd hR u5,fun v hv=>by simp at hv⟩
 |cons r R l h0 h1 h2 ih=>
   intro hr hm;obtain⟨tb,_⟩:=xW h0 hr;have nb:=fun j=>we hr h1.lt j;obtain⟨i1,i2⟩:=ih (Nat.lt_of_le_of_lt Nat.and_le_left hr) fun j hj=>hm j (by rw[nb,ae] at hj; exact hj.1);refine⟨fun S hS=>?_,fun v hv=>?_⟩
   ·rcases aK.1 hS with rfl|hS
    ·exact⟨tz r,hm _ tb,h1⟩
    ·exact i1 S hS
   ·cases q:R.testBit v with
    |true=>exact⟨R,fP,q⟩
    |false=>
      obtain⟨S,s1,s2⟩:=i2 v (by rw[nb,hv,q]; rfl);exact⟨S,eH _ s1,s2⟩
theorem s9 {A:List Nat} (hS:Cp A) {m m' R R' w:Nat} (hm:Ms m m') (h:Grp A m R) (h':Grp A m' R') (hw:R.testBit w=true) (hw':R'.testBit w=true):Ms R R':=by
 obtain⟨v,v1,v2⟩:=h;obtain⟨v',v3,v4⟩:=h'
 have c1:=v2.least (fun u=>m.testBit u=true/\(R'.testBit u=true->R'.testBit v=true)) (fun j hj=>by
  obtain rfl:=CV hj;exact⟨v1,id⟩) (fun j k hj hjk hk=>⟨hk,fun hk'=>hj.2 (v4.cl k j hk' (by rw[hS k j]; exact hjk) (hm _ hj.1))⟩) w hw
 have c2:=c1.2 hw'
 exact fun j hj=>v2.least (fun u=>R'.testBit u=true) (fun j hj=>by
  obtain rfl:=CV hj;exact c2) (fun j k hj hjk hk=>v4.cl j k hj hjk (hm _ hk)) j hj
theorem yP {A:List Nat} {m R:Nat} (h:Grp A m R):R<18446744073709551616:=by
 obtain⟨v,_,h⟩:=h;exact h.lt
theorem aaO {R j:Nat} (h:R<18446744073709551616) (hj:R.testBit j=true):j<64:=by
 apply Nat.lt_of_not_le;intro q
 have:R.testBit j=false:=Nat.testBit_lt_two_pow (Nat.lt_of_lt_of_le h (by
  rw[show (18446744073709551616:Nat)=2 ^ 64 from rfl];exact Nat.pow_le_pow_right (by decide) q))
 rw[this] at hj;cases hj
theorem lK {R:Nat} (h:R<18446744073709551616) {j:Nat}:(j:Int)∈cI R ↔ R.testBit j=true:=by
 rw[jJ];constructor
 ·rintro⟨i,e,_,hi⟩;obtain rfl:j=i:=by omega
  exact hi
 ·exact fun hj=>⟨j,rfl,aaO h hj,hj⟩
abbrev Ye (L:List Int) (k:Nat):Nat:=LN (k:Int) L 0 0
theorem CB {L:List Int} {k j:Nat}:(Ye L k).testBit j=true ↔ j<L.length/\(k:Int)<=L.getD j 0:=by
 rw[IW,Nat.zero_testBit,Bool.false_or,ae,ae,decide_eq_true_eq,decide_eq_true_eq,decide_eq_true_eq,Nat.sub_zero];exact⟨fun h=>⟨h.1.2,h.2⟩,fun h=>⟨⟨Nat.zero_le _,h.1⟩,h.2⟩⟩
theorem Zs {L:List Int} {j k:Nat} (h:j<=k):Ms (Ye L k) (Ye L j):=fun i hi=>by
 rw[CB] at *;exact⟨hi.1,by omega⟩
def IsG (A:List Nat) (L:List Int) (k:Nat) (s:List Int):Prop:=∃R,Grp A (Ye L k) R/\s=cI R
theorem JF:∀{a:List (List Int × Int)},(a.map dW).Nodup->∀(s:List Int) (k:Int) (p:List Int × Int),p∈iV a s k ↔ p=(s,k)\/(p∈a/\p.1≠s)
 |[],_,s,k,p=>by simp[iV]
 |(t,j)::r,hn,s,k,p=>by
   rw[eJ,xD] at hn;unfold iV;split
   ·rename_i e;subst e;rw[aK,aK];constructor
    ·rintro (h|h)
     ·exact .inl h
     ·exact .inr ⟨.inr h,fun e=>hn.1 (e▸rS.2 ⟨p,h,rfl⟩)⟩
    ·rintro (h|⟨h|h,h2⟩)
     ·exact .inl h
     ·exact absurd (congrArg dW h) h2
     ·exact .inr h
   ·rename_i e;rw[aK,aK,JF hn.2 s k p];constructor
    ·rintro (h|h|h)
     ·exact .inr ⟨.inl h,fun q=>e ((congrArg dW h).symm.trans q)⟩
     ·exact .inl h
     ·exact .inr ⟨.inr h.1,h.2⟩
    ·rintro (h|⟨h|h,h2⟩)
     ·exact .inr (.inl h)
     ·exact .inl h
     ·exact .inr (.inr ⟨h,h2⟩)
theorem vG (k:Int):∀(l:List Nat) {a:List (List Int × Int)},(a.map dW).Nodup->∀p:List Int × Int,p∈rh k a (l.map cI) ↔ (p.2=k/\p.1∈l.map cI)\/(p∈a/\p.1∉l.map cI)
 |[],a,hn,p=>by simp[rh]
 |R::r,a,hn,p=>by
   have e:rh k a ((R::r).map cI)=rh k (iV a (cI R) k) (r.map cI):=rfl;rw[e,vG k r (CS hn _ _),JF hn,eJ,aK];obtain⟨s,z⟩:=p;simp only[Prod.mk.injEq,ne_eq,not_or];by_cases q1:s=cI R
   ·by_cases q2:s∈r.map cI
    ·constructor
     ·rintro (h|⟨_,h⟩)
      ·exact .inl ⟨h.1,.inl q1⟩
      ·exact absurd q2 h
     ·rintro (h|⟨_,h,_⟩)
      ·exact .inl ⟨h.1,q2⟩
      ·exact absurd q1 h
    ·constructor
     ·rintro (h|⟨h|h,_⟩)
      ·exact absurd h.2 q2
      ·exact .inl ⟨h.2,.inl q1⟩
      ·exact absurd q1 h.2
     ·rintro (h|⟨_,h,_⟩)
      ·exact .inr ⟨.inl ⟨q1,h.1⟩,q2⟩
      ·exact absurd q1 h
   ·simp[q1]
theorem GV {k:Int} {l:List Nat} {a:List (List Int × Int)} (h:(a.map dW).Nodup):((rh k a (l.map cI)).map dW).Nodup:=yC k l a h
section
variable {A:List Nat} {L:List Int} (hl:∀k,Ye L k<18446744073709551616)
include hl
theorem afu {k n:Nat} {a b:List (List Int × Int)} (h:Yp A L k n a b):(a.map dW).Nodup->(∀p∈a,∃j,j<k/\p.2=(j:Int)/\IsG A L j p.1)->∀p∈b,∃j,j<k+n/\p.2=(j:Int)/\IsG A L j p.1:=by
 induction h with
 |nil k a=>exact fun _ h=>h
 |cons k n a b l h1 h2 ih=>
   intro hn ha p hp;have g:=W9 h1 (hl k) fun _ h=>h
   obtain⟨j,j1,j2⟩:=ih (GV hn) (fun p hp=>by
    rcases (vG _ l hn p).1 hp with⟨e,hp⟩|⟨hp,_⟩
    ·obtain⟨R,hR,e2⟩:=rS.1 hp;exact⟨k,by omega,e,R,g.1 R hR,e2.symm⟩
    ·obtain⟨j,j1,j2⟩:=ha p hp;exact⟨j,by omega,j2⟩) p hp
   exact⟨j,by omega,j2⟩
theorem afv (hS:Cp A) {k n:Nat} {a b:List (List Int × Int)} (h:Yp A L k n a b):(a.map dW).Nodup ->
  (∀(s:List Int) (z:Int),(s,z)∈a->z<=k->∃y,z<=y/\(s,y)∈b)/\∀ (s:List Int) (j:Nat),k<=j->j<k+n->IsG A L j s->∃y:Int,(j:Int)<=y/\(s,y)∈b:=by
 induction h with
 |nil k a=>exact fun _=>⟨fun s z h _=>⟨z,Int.le_refl _,h⟩,fun s j h1 h2=>by omega⟩
 |cons k n a b l h1 h2 ih=>
   intro hn;obtain⟨i1,i2⟩:=ih (GV hn);have g:=W9 h1 (hl k) fun _ h=>h;refine⟨fun s z hz hk=>?_,fun s j j1 j2 hs=>?_⟩
   ·by_cases q:s∈l.map cI
    ·obtain⟨y,y1,y2⟩:=i1 s k ((vG _ l hn _).2 (.inl ⟨rfl,q⟩)) (by omega);exact⟨y,by omega,y2⟩
    ·exact i1 s z ((vG _ l hn _).2 (.inr ⟨hz,q⟩)) (by omega)
   ·rcases Nat.eq_or_lt_of_le j1 with rfl|j1
    ·obtain⟨R,r1,rfl⟩:=hs;obtain⟨v,v1,v2⟩:=r1;obtain⟨S,s1,s2⟩:=g.2 v v1
     have e:R=S:=by
      have a1:=s9 hS (fun _ h=>h) ⟨v,v1,v2⟩ (g.1 S s1) (v2.sub v (Cu v)) s2;have a2:=s9 hS (fun _ h=>h) (g.1 S s1) ⟨v,v1,v2⟩ s2 (v2.sub v (Cu v));apply Nat.eq_of_testBit_eq;intro i;cases q:S.testBit i with
      |true=>exact a2 i q
      |false=>cases q2:R.testBit i with
        |true=>rw[a1 i q2] at q; cases q
        |false=>rfl
     subst e;exact i1 _ k ((vG _ l hn _).2 (.inl ⟨rfl,rS.2 ⟨R,s1,rfl⟩⟩)) (by omega)
    ·exact i2 s j j1 (by omega) hs
end
/- slices.Max. -/
def KD (m:Int) (L:List Int):Int:=L.foldl (fun a b=>max a b) m
theorem V6:∀(L:List Int) (m:Int),m<=KD m L/\(∀x∈L,x<=KD m L)/\(KD m L=m\/KD m L∈L)
 |[],m=>⟨Int.le_refl _,fun x h=>absurd h u5,.inl rfl⟩
 |y::L,m=>by
   obtain⟨a,b,c⟩:=V6 L (max m y);change m<=KD (max m y) L/\(∀x∈y::L,x<=KD (max m y) L)/\(KD (max m y) L=m\/KD (max m y) L∈y::L);refine⟨by omega,fun x h=>?_,?_⟩
   ·rcases aK.1 h with rfl|h
    ·omega
    ·exact b x h
   ·rcases c with c|c
    ·by_cases q:m<=y
     ·right; rw[c]; rw[Int.max_eq_right q]; exact fP
     ·left; rw[c]; omega
    ·right; exact eH _ c
theorem Rh (L:List Int) (hL:L.length<1000000):∀(n i:Nat) (m:Int),i+n=L.length->bh aD 0 (.loop Ru) ⟨[(0,.list 1 (ints L)),(3,.int .i64 m),(4,.int .i64 i)],[]⟩=some (.exit 0,⟨[(0,.list 1 (ints L)),(3,.int .i64 (KD m (L.drop i))),(4,.int .i64 L.length),(15,.bool false)],[]⟩)
 |0,i,m,h=>by
   have e:i=L.length:=by omega
   rw[e,List.drop_length];refine cv ?_;show _=some (Ex.exit 0,(⟨[(0,.list 1 (ints L)),(3,.int .i64 m),(4,.int .i64 L.length),(15,.bool false)],[]⟩:St));unfold Ru;simp[PM,PL,PK,PJ,PI,PH,PG,PF,PE,ah,aN,bf,bW,dF,fh,aY,bj,aX,ah,aZ,bG,cB,bU]
 |n+1,i,m,h=>by
   have hi:i<L.length:=by omega
   have i1:(i:Int)<L.length:=by omega
   have w:=fT (i:=i) (by omega);rw[cm hi];have qm:(if m<L[i] then L[i] else m)=max m L[i]:=by split<;>omega
   have e:KD m (L[i]::L.drop (i+1))=KD (max m L[i]) (L.drop (i+1)):=rfl;rw[e];refine (bI ?_).trans (Rh L hL n (i+1) (max m L[i]) (by omega));unfold Ru;simp[PM,PL,PK,PJ,PI,PH,PG,PF,PE,ah,i1,hi,w,qm,bG,idx,aN,bf,bW,dF,fh,aY,bj,aX,ah,aZ,bG,cB,bU]
theorem Zr (d:Int) (L:List Int) (hL:L.length<900000):bS aD nQn [.list 1 (ints (d::L))] []=some (.int .i64 (KD d L),[]):=by
 rw[fZ sQn (Nat.le_of_ble_eq_true rfl)];have lp:=Rh (d::L) (by simp; omega) L.length 1 d (by simp; omega);rw[nat1] at lp;change _=some (Ex.exit 0,(⟨[(0,.list 1 (ints (d::L))),(3,.int .i64 (KD d L)),(4,.int .i64 ((d::L).length:Nat)),(15,.bool false)],[]⟩:St)) at lp;have q1:¬(L.length:Int)+1<1:=by omega
 rw[jS] at lp ⊢;unfold qQn cQn;simp[PM,PL,PK,PJ,PI,PH,PG,PF,PE,lp,q1,ah,idx,aN,bf,bW,dF,fh,aY,bj,aX,ah,aZ,bG,cB,bU]
end Go.BmP
