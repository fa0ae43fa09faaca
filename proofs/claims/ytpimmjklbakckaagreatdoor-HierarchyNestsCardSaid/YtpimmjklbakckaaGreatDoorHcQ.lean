/- hierarchy.gathered: the levels of the parts. -/
import Derived.Test.YtpimmjklbakckaaGreatDoorHcN
set_option linter.unusedSimpArgs false
set_option linter.unusedVariables false
set_option maxRecDepth 100000
set_option maxHeartbeats 8000000
open Bool renaming and_eq_true → ae
open List renaming drop_eq_getElem_cons → bH, getElem_mem → nP, length_map → cN, length_take → bj, map_cons → eB, mem_cons → aO, mem_cons_of_mem → dm, mem_cons_self → eI, mem_map → iK, nodup_cons → jX, not_mem_nil → vX
open Nat renaming testBit_two_pow → uB
open Option.some renaming inj → bK, injEq → af
open Prod renaming fst → eH
namespace Go.BmP
open Go.Am Go.Bm
def Gi (a:List (List Int × Int)) (i:Nat):List AV:=(a.take i).map (fun p=>dZ (p.2,-1,p.1))++(a.drop i).map fun p=>dZ (0,-1,p.1)
theorem Y5 (a:List (List Int × Int)):Gi a 0=oQ a:=by simp[Gi,oQ]
theorem abA (a:List (List Int × Int)):Gi a a.length=a.map fun p=>dZ (p.2,-1,p.1):=by simp[Gi]
theorem zL (a:List (List Int × Int)) (i:Nat):(Gi a i).length=a.length:=by simp[Gi]; omega
theorem afk (a:List (List Int × Int)) (i:Nat) (h:i<a.length):(Gi a i)[i]?=some (dZ (0,-1,a[i].1)):=by
 unfold Gi;rw[List.getElem?_append_right (by rw[cN,bj]; omega),cN,bj,Nat.min_eq_left (by omega),Nat.sub_self,List.getElem?_map,List.getElem?_drop];simp[h]
theorem abz (a:List (List Int × Int)) (i:Nat) (h:i<a.length):(Gi a i).set i (dZ (a[i].2,-1,a[i].1))=Gi a (i+1):=by
 unfold Gi;rw[List.set_append_right _ _ (by rw[cN,bj]; omega),cN,bj,Nat.min_eq_left (by omega),Nat.sub_self,bH h,eB,List.set_cons_zero,List.take_succ_eq_append_getElem h,List.map_append];simp
theorem Us:∀(a:List (List Int × Int)),(a.map eH).Nodup->∀(i j:Nat) (h:i<a.length),∃n,oY a a[i].1 j=some (n,.int .i64 a[i].2)
 |[],_,i,_,h=>by simp at h
 |(t,z)::r,hn,0,j,h=>⟨j,by simp[oY]⟩
 |(t,z)::r,hn,i+1,j,h=>by
   rw[eB,jX] at hn;have hi:i<r.length:=by simpa using h
   obtain⟨n,hf⟩:=Us r hn.2 i (j+1) hi;refine⟨n,?_⟩;have tN:¬t=r[i].1:=fun e=>hn.1 (iK.2 ⟨r[i],nP _,e.symm⟩);simp only[List.getElem_cons_succ];unfold oY;rw[if_neg tN]; exact hf
theorem JA:∀(a:List (List Int × Int)) (s:List Int) (i:Nat),(oY a s i).isSome=false->s∉a.map eH
 |[],s,i,_=>by simp
 |(t,z)::r,s,i,h=>by
   unfold oY at h;split at h
   ·cases h
   ·rename_i e;rw[eB,aO,not_or];exact⟨fun k=>e k.symm,JA r s _ h⟩
theorem EB {a:List (List Int × Int)} (h:(a.map eH).Nodup) (s:List Int) (k:Int):((iW a s k).map eH).Nodup:=by
 rw[xE];split
 ·exact h
 ·rename_i e;have:=JA a s 0 (by simpa using e);rw[List.nodup_append];exact⟨h,by simp,fun x hx y hy=>by simp at hy; subst hy; intro e2; subst e2; exact this hx⟩
theorem zK (k:Int):∀(l:List Nat) (a:List (List Int × Int)),(a.map eH).Nodup->((rZ k a (l.map cz)).map eH).Nodup
 |[],a,h=>h
 |R::r,a,h=>zK k r (iW a (cz R) k) (EB h _ _)
theorem Nf {A:List Nat} {L:List Int} {k n:Nat} {a b:List (List Int × Int)} (h:LvR A L k n a b):(a.map eH).Nodup->(b.map eH).Nodup:=by
 induction h with
 |nil=>exact id
 |cons k n a b l _ _ ih=>exact fun h=>ih (zK _ l a h)
def QM (N:Nat) (Y O1 L1:List AV) (a:List (List Int × Int)) (i:Nat) (J:Env):St:=
 ⟨(5,nB 5)::(6,.own 3 (Gi a i))::(50,.int .i64 a.length)::(51,.int .i64 i)::J,hH N Y O1 L1 (zY a)⟩
theorem ZX {N:Nat} {Y:List AV} (o L:List Int) (a:List (List Int × Int)) (ha:∀p∈a,Lo p.1) (hn:(a.map eH).Nodup) (LD:a.length<=900) (qP:∀p∈a,p.1.length<=64) (i:Nat) (hi:i<a.length) :
  bg aC 5 Ns (QM N Y (ints o) (ints L) a i [])=some (.normal,QM N Y (ints o) (ints L) a (i+1) []):=by
 have k1:(i:Int)<a.length:=by omega
 have hw:=eO (i:=i) (by omega);have hm:a[i]∈a:=nP hi;have hs:=ha _ hm;have kr:=KF a[i].1 (by have:=qP _ hm; omega) hs;obtain⟨n,hf⟩:=Us a hn i 0 hi;have mf:=xS hs ha 0;rw[hf] at mf
 have kq:xW .zM (.str (kS a[i].1)) (.str (kS a[i].1))=some true:=by
  simp only[xW,af]; exact (MapKept.bytes_beq _ _).2 rfl
 have la:=zL a i;have g3:=afk a i hi;have bQ:i<(Gi a i).length:=by rw[la]; exact hi
 have g4:∀h,(Gi a i)[i]'h=dZ (0,-1,a[i].1):=fun h=>by
  rw[List.getElem?_eq_getElem h] at g3;exact bK g3
 have st:=abz a i hi;have x1:=sB (bM o);have x2:=sB (bM L);have x3:=A5 (mU a);obtain⟨a1,a2,a3,a4,a5,a6,a7,a8,a9,aa,ab⟩:=bM o;obtain⟨b1,b2,b3,b4,b5,b6,b7,b8,b9,ba,bb⟩:=bM L;obtain⟨c1,c2,c3,c4,c5,c6,c8⟩:=mU a;unfold QM hH my nB;rw[<-st];unfold dZ at *;generalize Gi a i=P1 at *;generalize zY a=E1 at *;generalize kS a[i].1=K at *;generalize ints a[i].1=S1 at *;generalize a[i].2=z at *;generalize ints o=O1 at *;generalize ints L=L1 at *;unfold Ns;simp[oF,oE,oD,oC,oB,oA,ox,ot,oq,om,jC,jB,jA,jz,jy,jx,jw,jv,ju,jt,js,jr,jq,jo,jm,jl,jj,ji,jh,jg,jf,je,k1,hw,g3,g4,la,hi,bQ,kr,mf,kq,x1,x2,x3,a1,a2,a3,a4,a5,a6,a7,a8,a9,aa,ab,b1,b2,b3,b4,b5,b6,b7,b8,b9,ba,bb,c1,c2,c3,c4,c5,c6,c8,mapOf,nB,Wa,idx,aJ,eE,pl,An,fz,K0,gq,sQC,iQC]
theorem Ul {N:Nat} {Y:List AV} (o L:List Int) (a:List (List Int × Int)) (ha:∀p∈a,Lo p.1) (hn:(a.map eH).Nodup) (LD:a.length<=900) (qP:∀p∈a,p.1.length<=64):∀(n i:Nat),i+n=a.length ->
  bg aC 5 (.loop Ns) (QM N Y (ints o) (ints L) a i [])=some (.exit 4,QM N Y (ints o) (ints L) a a.length [(52,.bool false)])
 |0,i,hi=>by
   obtain rfl:i=a.length:=by omega
   refine bI ?_;have la:=zL a a.length;unfold QM hH my nB;generalize Gi a a.length=P1 at *;generalize zY a=E1 at *;generalize ints o=O1 at *;generalize ints L=L1 at *;unfold Ns;simp[oF,oE,oD,oC,oB,oA,ox,ot,oq,om,jC,jB,jA,jz,jy,jx,jw,jv,ju,jt,js,jr,jq,jo,jm,jl,jj,ji,jh,jg,jf,je]
 |n+1,i,hi=>(bk (ZX o L a ha hn LD qP i (by omega))).trans (Ul o L a ha hn LD qP n (i+1) (by omega))
/- The hierarchy of cores, plain: the groups of all levels. -/
def Grp (A:List Nat) (m R:Nat):Prop:=∃v:Nat,m.testBit v=true/\xq A m (2 ^ v) R
theorem D7 (v:Nat):(2 ^ v).testBit v=true:=by rw[uB]; simp
theorem ED {v j:Nat} (h:(2 ^ v).testBit j=true):j=v:=by
 rw[uB] at h;exact (of_decide_eq_true h).symm
theorem ZP {A:List Nat} {m r:Nat} {l:List Nat} (h:Lq A m r l):r<18446744073709551616->(∀j,r.testBit j=true->m.testBit j=true)->(∀R∈l,Grp A m R)/\∀ v,r.testBit v=true->∃R∈l,R.testBit v=true:=by
 induction h with
 |nil=>exact fun _ _=>⟨fun R hR=>absurd hR vX,fun v hv=>by simp at hv⟩
 |cons r R l h0 h1 h2 ih=>
   intro hr hm;obtain⟨tb,_⟩:=zd h0 hr;have nb:=fun j=>xl hr h1.lt j;obtain⟨i1,i2⟩:=ih (Nat.lt_of_le_of_lt Nat.and_le_left hr) fun j hj=>hm j (by rw[nb,ae] at hj; exact hj.1);refine⟨fun S hS=>?_,fun v hv=>?_⟩
   ·rcases aO.1 hS with rfl|hS
    ·exact⟨tz r,hm _ tb,h1⟩
    ·exact i1 S hS
   ·cases q:R.testBit v with
    |true=>exact⟨R,eI,q⟩
    |false=>
      obtain⟨S,s1,s2⟩:=i2 v (by rw[nb,hv,q]; rfl);exact⟨S,dm _ s1,s2⟩
theorem Bg {A:List Nat} (hS:D3 A) {m m' R R' w:Nat} (hm:Lk m m') (h:Grp A m R) (h':Grp A m' R') (hw:R.testBit w=true) (hw':R'.testBit w=true):Lk R R':=by
 obtain⟨v,v1,v2⟩:=h;obtain⟨v',v3,v4⟩:=h'
 have c1:=v2.least (fun u=>m.testBit u=true/\(R'.testBit u=true->R'.testBit v=true)) (fun j hj=>by
  obtain rfl:=ED hj;exact⟨v1,id⟩) (fun j k hj hjk hk=>⟨hk,fun hk'=>hj.2 (v4.cl k j hk' (by rw[hS k j]; exact hjk) (hm _ hj.1))⟩) w hw
 have c2:=c1.2 hw'
 exact fun j hj=>v2.least (fun u=>R'.testBit u=true) (fun j hj=>by
  obtain rfl:=ED hj;exact c2) (fun j k hj hjk hk=>v4.cl j k hj hjk (hm _ hk)) j hj
theorem zX {A:List Nat} {m R:Nat} (h:Grp A m R):R<18446744073709551616:=by
 obtain⟨v,_,h⟩:=h;exact h.lt
theorem acB {R j:Nat} (h:R<18446744073709551616) (hj:R.testBit j=true):j<64:=by
 apply Nat.lt_of_not_le;intro q
 have:R.testBit j=false:=Nat.testBit_lt_two_pow (Nat.lt_of_lt_of_le h (by
  rw[show (18446744073709551616:Nat)=2 ^ 64 from rfl];exact Nat.pow_le_pow_right (by decide) q))
 rw[this] at hj;cases hj
theorem lI {R:Nat} (h:R<18446744073709551616) {j:Nat}:(j:Int)∈cz R ↔ R.testBit j=true:=by
 rw[ff];constructor
 ·rintro⟨i,e,_,hi⟩;obtain rfl:j=i:=by omega
  exact hi
 ·exact fun hj=>⟨j,rfl,acB h hj,hj⟩
abbrev lvM (L:List Int) (k:Nat):Nat:=Oe (k:Int) L 0 0
theorem A4 {L:List Int} {k j:Nat}:(lvM L k).testBit j=true ↔ j<L.length/\(k:Int)<=L.getD j 0:=by
 rw[KY,Nat.zero_testBit,Bool.false_or,ae,ae,decide_eq_true_eq,decide_eq_true_eq,decide_eq_true_eq,Nat.sub_zero];exact⟨fun h=>⟨h.1.2,h.2⟩,fun h=>⟨⟨Nat.zero_le _,h.1⟩,h.2⟩⟩
theorem aby {L:List Int} {j k:Nat} (h:j<=k):Lk (lvM L k) (lvM L j):=fun i hi=>by
 rw[A4] at *;exact⟨hi.1,by omega⟩
def IsG (A:List Nat) (L:List Int) (k:Nat) (s:List Int):Prop:=∃R,Grp A (lvM L k) R/\s=cz R
theorem LN:∀{a:List (List Int × Int)},(a.map eH).Nodup->∀(s:List Int) (k:Int) (p:List Int × Int),p∈iW a s k ↔ p=(s,k)\/(p∈a/\p.1≠s)
 |[],_,s,k,p=>by simp[iW]
 |(t,j)::r,hn,s,k,p=>by
   rw[eB,jX] at hn;unfold iW;split
   ·rename_i e;subst e;rw[aO,aO];constructor
    ·rintro (h|h)
     ·exact .inl h
     ·exact .inr ⟨.inr h,fun e=>hn.1 (e▸iK.2 ⟨p,h,rfl⟩)⟩
    ·rintro (h|⟨h|h,h2⟩)
     ·exact .inl h
     ·exact absurd (congrArg eH h) h2
     ·exact .inr h
   ·rename_i e;rw[aO,aO,LN hn.2 s k p];constructor
    ·rintro (h|h|h)
     ·exact .inr ⟨.inl h,fun q=>e ((congrArg eH h).symm.trans q)⟩
     ·exact .inl h
     ·exact .inr ⟨.inr h.1,h.2⟩
    ·rintro (h|⟨h|h,h2⟩)
     ·exact .inr (.inl h)
     ·exact .inl h
     ·exact .inr (.inr ⟨h,h2⟩)
theorem wR (k:Int):∀(l:List Nat) {a:List (List Int × Int)},(a.map eH).Nodup->∀p:List Int × Int,p∈rZ k a (l.map cz) ↔ (p.2=k/\p.1∈l.map cz)\/(p∈a/\p.1∉l.map cz)
 |[],a,hn,p=>by simp[rZ]
 |R::r,a,hn,p=>by
   have e:rZ k a ((R::r).map cz)=rZ k (iW a (cz R) k) (r.map cz):=rfl;rw[e,wR k r (EB hn _ _),LN hn,eB,aO];obtain⟨s,z⟩:=p;simp only[Prod.mk.injEq,ne_eq,not_or];by_cases q1:s=cz R
   ·by_cases q2:s∈r.map cz
    ·constructor
     ·rintro (h|⟨_,h⟩)
      ·exact .inl ⟨h.1,.inl q1⟩
      ·exact absurd q2 h
     ·rintro (h|⟨_,h,_⟩)
      ·exact .inl ⟨h.1,q2⟩
      ·exact absurd q1 h
    ·constructor
     ·rintro (h|⟨h|h,_⟩)
      ·exact absurd h.2 q2
      ·exact .inl ⟨h.2,.inl q1⟩
      ·exact absurd q1 h.2
     ·rintro (h|⟨_,h,_⟩)
      ·exact .inr ⟨.inl ⟨q1,h.1⟩,q2⟩
      ·exact absurd q1 h
   ·simp[q1]
theorem Je {k:Int} {l:List Nat} {a:List (List Int × Int)} (h:(a.map eH).Nodup):((rZ k a (l.map cz)).map eH).Nodup:=zK k l a h
section
variable {A:List Nat} {L:List Int} (hl:∀k,lvM L k<18446744073709551616)
include hl
theorem ahd {k n:Nat} {a b:List (List Int × Int)} (h:LvR A L k n a b):(a.map eH).Nodup->(∀p∈a,∃j,j<k/\p.2=(j:Int)/\IsG A L j p.1)->∀p∈b,∃j,j<k+n/\p.2=(j:Int)/\IsG A L j p.1:=by
 induction h with
 |nil k a=>exact fun _ h=>h
 |cons k n a b l h1 h2 ih=>
   intro hn ha p hp;have g:=ZP h1 (hl k) fun _ h=>h
   obtain⟨j,j1,j2⟩:=ih (Je hn) (fun p hp=>by
    rcases (wR _ l hn p).1 hp with⟨e,hp⟩|⟨hp,_⟩
    ·obtain⟨R,hR,e2⟩:=iK.1 hp;exact⟨k,by omega,e,R,g.1 R hR,e2.symm⟩
    ·obtain⟨j,j1,j2⟩:=ha p hp;exact⟨j,by omega,j2⟩) p hp
   exact⟨j,by omega,j2⟩
theorem ahe (hS:D3 A) {k n:Nat} {a b:List (List Int × Int)} (h:LvR A L k n a b):(a.map eH).Nodup ->
  (∀(s:List Int) (z:Int),(s,z)∈a->z<=k->∃y,z<=y/\(s,y)∈b)/\∀ (s:List Int) (j:Nat),k<=j->j<k+n->IsG A L j s->∃y:Int,(j:Int)<=y/\(s,y)∈b:=by
 induction h with
 |nil k a=>exact fun _=>⟨fun s z h _=>⟨z,Int.le_refl _,h⟩,fun s j h1 h2=>by omega⟩
 |cons k n a b l h1 h2 ih=>
   intro hn;obtain⟨i1,i2⟩:=ih (Je hn);have g:=ZP h1 (hl k) fun _ h=>h;refine⟨fun s z hz hk=>?_,fun s j j1 j2 hs=>?_⟩
   ·by_cases q:s∈l.map cz
    ·obtain⟨y,y1,y2⟩:=i1 s k ((wR _ l hn _).2 (.inl ⟨rfl,q⟩)) (by omega);exact⟨y,by omega,y2⟩
    ·exact i1 s z ((wR _ l hn _).2 (.inr ⟨hz,q⟩)) (by omega)
   ·rcases Nat.eq_or_lt_of_le j1 with rfl|j1
    ·obtain⟨R,r1,rfl⟩:=hs;obtain⟨v,v1,v2⟩:=r1;obtain⟨S,s1,s2⟩:=g.2 v v1
     have e:R=S:=by
      have a1:=Bg hS (fun _ h=>h) ⟨v,v1,v2⟩ (g.1 S s1) (v2.sub v (D7 v)) s2;have a2:=Bg hS (fun _ h=>h) (g.1 S s1) ⟨v,v1,v2⟩ s2 (v2.sub v (D7 v));apply Nat.eq_of_testBit_eq;intro i;cases q:S.testBit i with
      |true=>exact a2 i q
      |false=>cases q2:R.testBit i with
        |true=>rw[a1 i q2] at q; cases q
        |false=>rfl
     subst e;exact i1 _ k ((wR _ l hn _).2 (.inl ⟨rfl,iK.2 ⟨R,s1,rfl⟩⟩)) (by omega)
    ·exact i2 s j j1 (by omega) hs
end
/- slices.Max. -/
def MW (m:Int) (L:List Int):Int:=L.foldl (fun a b=>max a b) m
theorem YR:∀(L:List Int) (m:Int),m<=MW m L/\(∀x∈L,x<=MW m L)/\(MW m L=m\/MW m L∈L)
 |[],m=>⟨Int.le_refl _,fun x h=>absurd h vX,.inl rfl⟩
 |y::L,m=>by
   obtain⟨a,b,c⟩:=YR L (max m y);change m<=MW (max m y) L/\(∀x∈y::L,x<=MW (max m y) L)/\(MW (max m y) L=m\/MW (max m y) L∈y::L);refine⟨by omega,fun x h=>?_,?_⟩
   ·rcases aO.1 h with rfl|h
    ·omega
    ·exact b x h
   ·rcases c with c|c
    ·by_cases q:m<=y
     ·right; rw[c]; rw[Int.max_eq_right q]; exact eI
     ·left; rw[c]; omega
    ·right; exact dm _ c
theorem TQ (L:List Int) (hL:L.length<1000000):∀(n i:Nat) (m:Int),i+n=L.length->bg aC 0 (.loop T5) ⟨[(0,.list 1 (ints L)),(3,.int .i64 m),(4,.int .i64 i)],[]⟩=some (.exit 0,⟨[(0,.list 1 (ints L)),(3,.int .i64 (MW m (L.drop i))),(4,.int .i64 L.length),(15,.bool false)],[]⟩)
 |0,i,m,h=>by
   have e:i=L.length:=by omega
   rw[e,List.drop_length];refine bI ?_;show _=some (Ex.exit 0,(⟨[(0,.list 1 (ints L)),(3,.int .i64 m),(4,.int .i64 L.length),(15,.bool false)],[]⟩:St));unfold T5;simp[Sn,Sm,Sl,Sk,Sj,Si,Sh,Sg,Sf,ah,aJ,aS,bG,cU,dR,aM,aV,aL,ah,aU,bm,cc,bR]
 |n+1,i,m,h=>by
   have hi:i<L.length:=by omega
   have i1:(i:Int)<L.length:=by omega
   have w:=eO (i:=i) (by omega);rw[bH hi];have qm:(if m<L[i] then L[i] else m)=max m L[i]:=by split<;>omega
   have e:MW m (L[i]::L.drop (i+1))=MW (max m L[i]) (L.drop (i+1)):=rfl;rw[e];refine (bk ?_).trans (TQ L hL n (i+1) (max m L[i]) (by omega));unfold T5;simp[Sn,Sm,Sl,Sk,Sj,Si,Sh,Sg,Sf,ah,i1,hi,w,qm,bm,idx,aJ,aS,bG,cU,dR,aM,aV,aL,ah,aU,bm,cc,bR]
theorem abx (d:Int) (L:List Int) (hL:L.length<900000):bU aC nQn [.list 1 (ints (d::L))] []=some (.int .i64 (MW d L),[]):=by
 rw[fK sQn (Nat.le_of_ble_eq_true rfl)];have lp:=TQ (d::L) (by simp; omega) L.length 1 d (by simp; omega);rw[nat1] at lp;change _=some (Ex.exit 0,(⟨[(0,.list 1 (ints (d::L))),(3,.int .i64 (MW d L)),(4,.int .i64 ((d::L).length:Nat)),(15,.bool false)],[]⟩:St)) at lp;have q1:¬(L.length:Int)+1<1:=by omega
 rw[iU] at lp ⊢;unfold qQn cQn;simp[Sn,Sm,Sl,Sk,Sj,Si,Sh,Sg,Sf,lp,q1,ah,idx,aJ,aS,bG,cU,dR,aM,aV,aL,ah,aU,bm,cc,bR]
end Go.BmP
