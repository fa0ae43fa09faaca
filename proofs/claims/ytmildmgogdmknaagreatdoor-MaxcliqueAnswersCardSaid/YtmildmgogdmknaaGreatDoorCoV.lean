/- What slices.Equal returns (E01's head). -/
import Derived.KernelRfl
import Derived.Test.YtmildmgogdmknaaGreatDoorX11
import Derived.Test.YtmildmgogdmknaaGreatDoorR02k
set_option linter.unusedSimpArgs false
set_option linter.unusedVariables false
set_option maxRecDepth 100000
set_option maxHeartbeats 4000000
open List renaming all_eq_true → gL, drop_eq_getElem_cons → aT, drop_length → bK, drop_zero → bY, getD_eq_getElem?_getD → aJ, getElem?_eq_getElem → an, getElem_mem → cI, length_map → jQ, length_set → bI, map_set → Nh, mem_range → eP, range → cQ, replicate → aH, set_eq_take_append_cons_drop → FF, take_of_length_le → aZ
open Nat renaming le_of_ble_eq_true → ah
open Option.some renaming inj → dv
namespace Go.BmP
open Go.Am Go.Bm
theorem Vh (a b:List Int) (hl:a.length=b.length) (ha:a.length<4294967295):∀(k i:Nat),i+k=a.length->aW aq 0 (.loop Uv) ⟨[(0,.list 1 (ints a)),(1,.list 1 (ints b)),(12,.int .i64 a.length),(13,.int .i64 i)],[]⟩ =
  if a.drop i=b.drop i then some (.exit 0,⟨[(0,.list 1 (ints a)),(1,.list 1 (ints b)),(12,.int .i64 a.length),(13,.int .i64 a.length),(14,.bool false)],[]⟩) else some (.ret,⟨[(4,.bool false)],[]⟩)
 |0,i,hi=>by
   obtain rfl:i=a.length:=by omega
   rw[bK,hl,bK,if_pos rfl];exact bq (by unfold Uv; simp[J2,J1,J0,JZ,JY])
 |k+1,i,hi=>by
   have bD:i<a.length:=by omega
   have hltb:i<b.length:=by omega
   have h1:(i:Int)<a.length:=by omega
   have h1b:(i:Int)<b.length:=by omega
   have hw:=dM (i:=i) (by omega);have ih:=Vh a b hl ha k (i+1) (by omega);have i1:=gC (k:=.i64) (i:=(i:Int)) (n:=a.length) (by omega) h1;have i2:=gC (k:=.i64) (i:=(i:Int)) (n:=b.length) (by omega) h1b;rw[aT bD,aT hltb];simp only[List.cons.injEq];by_cases e:a[i]=b[i]
   ·have:(a[i]=b[i]/\a.drop (i+1)=b.drop (i+1))=(a.drop (i+1)=b.drop (i+1)):=by simp[e]
    simp only[this];rw[<-ih];exact aS (by unfold Uv; simp[J2,J1,J0,JZ,JY,h1,bD,hltb,hw,i1,i2,e,af,aM])
   ·rw[if_neg (fun k=>e k.1)];exact dp (by unfold Uv; simp[J2,J1,J0,JZ,JY,h1,bD,hltb,i1,i2,e,af,aM])
theorem aaO (a b:List Int) (ha:a.length<4294967295):bp aq nQL [.list 1 (ints a),.list 1 (ints b)] []=some (.bool (decide (a=b)),[]):=by
 rw[pM sQL (ah rfl)];unfold qQL cQL;by_cases hl:a.length=b.length
 ·have lp:=Vh a b hl ha a.length 0 (by omega);rw[bY,bY,fi] at lp;have Pd:(a.length:Int)=b.length:=by omega
  by_cases e:a=b
  ·rw[if_pos e] at lp;subst e;simp[J6,J5,J4,J3,JX,lp,af,bk,bf]
  ·rw[if_neg e] at lp;rw[decide_eq_false e];rw[Pd] at lp;simp[J6,J5,J4,J3,JX,lp,Pd,af,bk,bf]
 ·have Pd:¬(a.length:Int)=b.length:=by omega
  have e:¬a=b:=fun k=>hl (by rw[k]);rw[decide_eq_false e];simp[J6,J5,J4,J3,JX,Pd,af,bk,bf]
/- Greedy colourings, in plain words: they are proper, and two colours are enough if one side comes first. -/
def Ia (L:List Int):List Bool:=(cQ 65).map fun (c:Nat)=>decide ((c:Int)∈L)
def OQ (L:List Int):Nat:=(Ia L).findIdx fun b=>!b
theorem adP:∀(k:Nat) (L:List Int),(∀c:Nat,c<k->(c:Int)∈L)->k<=L.length
 |0,_,_=>Nat.zero_le _
 |k+1,L,h=>by
   have hk:=h k (by omega);have:=adP k (L.erase (k:Int)) fun c hc=>(List.mem_erase_of_ne (by omega)).2 (h c (by omega));rw[List.length_erase_of_mem hk] at this;have:=List.length_pos_of_mem hk;omega
theorem rQ (L:List Int):(Ia L).length=65:=by unfold Ia; rw[jQ,List.length_range]
theorem AP (L:List Int) (c:Nat) (h:c<(Ia L).length):(Ia L)[c]=decide ((c:Int)∈L):=by
 simp only[Ia,List.getElem_map,List.getElem_range]
theorem Q6 (L:List Int) {c:Nat} (h:c<OQ L) (h2:c<65):(c:Int)∈L:=by
 have hc:c<(Ia L).length:=by rw[rQ]; exact h2
 have:=List.not_of_lt_findIdx h;rw[AP] at this;simpa using this
theorem KT (L:List Int) (h:L.length<65):OQ L<=L.length:=by
 apply Nat.le_of_not_lt;intro q;have:=adP (L.length+1) L fun c hc=>Q6 L (by omega) (by omega);omega
theorem Q5 (L:List Int) (h:L.length<65):(OQ L:Int)∉L:=by
 have hl:OQ L<(Ia L).length:=by have:=KT L h; rw[rQ]; omega
 have:=List.findIdx_getElem (w:=hl) (p:=fun b=>!b) (xs:=Ia L);have g:=AP L (OQ L) hl;unfold OQ at g ⊢;rw[g] at this;simpa using this
def zU (C:List Int) (W:List Int):List Int:=W.filterMap fun w=>if 0<=C.getD w.toNat (-1) then some (C.getD w.toNat (-1)) else none
def Wi (nb:Nat->List Int) (C:List Int) (v:Int):List Int:=C.set v.toNat (OQ (zU C (nb v.toNat)):Nat)
def rN (nb:Nat->List Int) (N:Nat) (O:List Int):List Int:=O.foldl (Wi nb) (aH N (-1))
theorem Q3 (C W:List Int):(zU C W).length<=W.length:=List.length_filterMap_le _ _
theorem Q0 {C W:List Int} {c:Int}:c∈zU C W ↔ ∃w∈W,C.getD w.toNat (-1)=c/\0<=c:=by
 unfold zU;rw[List.mem_filterMap];constructor
 ·rintro⟨w,hw,h⟩;split at h
  ·rename_i q;cases h;exact⟨w,hw,rfl,q⟩
  ·cases h
 ·rintro⟨w,hw,rfl,h⟩;exact⟨w,hw,by rw[if_pos h]⟩
structure NbOK (nb:Nat->List Int) (N:Nat):Prop where
 len:∀v,v<N->(nb v).length<65
 rng:∀v,v<N->∀w∈nb v,0<=w/\w<N
 sym:∀u v:Nat,u<N->v<N->(v:Int)∈nb u->(u:Int)∈nb v
 irr:∀v:Nat,v<N->(v:Int)∉nb v
structure Cso (nb:Nat->List Int) (N:Nat) (C:List Int):Prop where
 len:C.length=N
 rng:∀c∈C,-1<=c/\c<65
 pro:∀u v:Nat,u<N->v<N->(v:Int)∈nb u->0<=C.getD u (-1)->C.getD u (-1)≠C.getD v (-1)
theorem E9 {C:List Int} {i j:Nat} {x d:Int} (h:i<C.length):(C.set i x).getD j d=if i=j then x else C.getD j d:=by
 rw[aJ,List.getElem?_set,aJ];by_cases e:i=j
 ·subst e;rw[if_pos rfl,if_pos h,if_pos rfl]; rfl
 ·rw[if_neg e,if_neg e]
theorem Wh {nb:Nat->List Int} {N:Nat} (hn:NbOK nb N) {C:List Int} (h:Cso nb N C) {v:Int} (hv:0<=v/\v<N):Cso nb N (Wi nb C v):=by
 obtain⟨v,rfl⟩:∃k:Nat,v=(k:Int):=⟨v.toNat,by omega⟩;have hv':v<N:=by omega
 have hl:v<C.length:=by rw[h.len]; exact hv'
 have ht:(v:Int).toNat=v:=by omega
 have nl:(zU C (nb v)).length<65:=by have:=Q3 C (nb v); have:=hn.len v hv'; omega
 have ml:=KT _ nl;have mo:=Q5 _ nl;unfold Wi;rw[ht];generalize hm:OQ (zU C (nb v))=m at *;refine⟨by rw[bI,h.len],fun c hc=>?_,fun a b ha hb hab h0=>?_⟩
 ·rcases List.mem_or_eq_of_mem_set hc with q|q
  ·exact h.rng c q
  ·omega
 ·rw[E9 hl] at h0;rw[E9 hl,E9 hl];by_cases e:v=a
  ·subst e;have:v≠b:=fun q=>hn.irr v hv' (q▸hab);rw[if_pos rfl,if_neg this];intro q;exact mo (Q0.2 ⟨b,hab,by rw[show (b:Int).toNat=b by omega]; exact q.symm,by omega⟩)
  ·rw[if_neg e] at h0 ⊢;by_cases e2:v=b
   ·subst e2;rw[if_pos rfl];intro q;exact mo (Q0.2 ⟨a,hn.sym a v ha hv' hab,by rw[show (a:Int).toNat=a by omega]; exact q,by omega⟩)
   ·rw[if_neg e2];exact h.pro a b ha hb hab h0
theorem xj {nb:Nat->List Int} {N:Nat} (hn:NbOK nb N):∀(O C:List Int),(∀v∈O,0<=v/\v<(N:Int))->Cso nb N C->Cso nb N (O.foldl (Wi nb) C)/\(∀i:Nat,i<N->(0<=C.getD i (-1)\/(i:Int)∈O)->0<=(O.foldl (Wi nb) C).getD i (-1))
 |[],C,_,h=>⟨h,fun i hi q=>q.elim id fun q=>absurd q List.not_mem_nil⟩
 |v::O,C,hO,h=>by
   have hv:=hO v List.mem_cons_self;have hl:v.toNat<C.length:=by rw[h.len]; omega
   obtain⟨a,b⟩:=xj hn O (Wi nb C v) (fun w hw=>hO w (List.mem_cons_of_mem _ hw)) (Wh hn h hv);refine⟨a,fun i hi q=>b i hi ?_⟩;unfold Wi;rw[E9 hl];by_cases e:v.toNat=i
   ·rw[if_pos e]; exact .inl (by omega)
   ·rw[if_neg e];rcases q with q|q
    ·exact .inl q
    ·rcases List.mem_cons.1 q with q|q
     ·omega
     ·exact .inr q
theorem qb (nb:Nat->List Int) (N:Nat):Cso nb N (aH N (-1)):=by
 refine⟨List.length_replicate,fun c hc=>?_,fun u v hu hv _ h0=>?_⟩
 ·rw[List.eq_of_mem_replicate hc]; omega
 ·rw[aJ,List.getElem?_replicate,if_pos hu] at h0;simp at h0
/- What slices.Index of bools and slices.Repeat of one number return. -/
def As (l:List Bool):List AV:=l.map AV.bool
theorem m5 (l:List Bool):(As l).length=l.length:=jQ _
theorem XI (l:List Bool) (i:Nat) (h:i<(As l).length):(As l)[i]=.bool (l[i]'(by simpa[As] using h)):=by simp[As]
theorem UC (l:List Bool) (hl:l.length<1000000) (m:Nat) (hm:m<l.length) (h1:∀j (hj:j<m),l[j]'(by omega)=true) (h2:l[m]=false):∀n i:Nat,i+n=m->aW aq 0 (.loop aap) ⟨[(0,.list 1 (As l)),(1,.bool false),(7,.int .i64 l.length),(8,.int .i64 i)],[]⟩=some (.ret,⟨[(4,.int .i64 m)],[]⟩)
 |0,i,e=>by
   obtain rfl:i=m:=by omega
   have i1:(i:Int)<l.length:=by omega
   refine dp ?_;unfold aap;simp[Y5,Y4,YZ,YY,YX,i1,hm,h2,XI,m5,idx]
 |n+1,i,e=>by
   have hi:i<l.length:=by omega
   have i1:(i:Int)<l.length:=by omega
   have h3:=h1 i (by omega);have w:=dM (i:=i) (by omega);refine (aS ?_).trans (UC l hl m hm h1 h2 n (i+1) (by omega));unfold aap;simp[Y5,Y4,YZ,YY,YX,i1,hi,h3,w,XI,m5,idx]
theorem ahd (L:List Int) (h:L.length<65):bp aq nQP [.list 1 (As (Ia L)),.bool false] []=some (.int .i64 (OQ L:Nat),[]):=by
 have hl:OQ L<(Ia L).length:=by have:=KT L h; rw[rQ]; omega
 have lp:=UC (Ia L) (by rw[rQ]; omega) (OQ L) hl (fun j hj=>by
  rw[AP];exact decide_eq_true (Q6 L hj (by rw[rQ] at hl; omega))) (by
  rw[AP];exact decide_eq_false (Q5 L h)) (OQ L) 0 (by omega)
 rw[fi] at lp;rw[pM sQP (ah rfl)];unfold qQP cQP;simp[Y7,Y6,YW,lp,m5,bk,bf]
def rpt (n:Nat):Bool:=match jN aq 300 nQN [.list 1 [.int .i64 (-1)],.int .i64 n] [] with
 |some (.own 1 xs,[])=>jS xs (aH n (.int .i64 (-1)))
 |_=>false
theorem agd:(cQ 65).all rpt=true:=by kernel_rfl
theorem agn (n:Nat) (h:n<=64):bp aq nQN [.list 1 [.int .i64 (-1)],.int .i64 n] []=some (.own 1 (ints (aH n (-1))),[]):=by
 have r:=gL.1 agd n (eP.2 (by omega));have e:ints (aH n (-1))=aH n (.int .i64 (-1)):=by unfold ints; rw[List.map_replicate]
 rw[e];unfold rpt at r;split at r
 ·rename_i xs hx;rw[pB _ _ r] at hx;exact fF.2 ⟨300,hx⟩
 ·cases r
/- What masks.All and masks.Bit return. -/
def isU (z:Nat):Option (AV × Heap)->Bool
 |some (.int .u64 x,[])=>decide (x=(z:Int))
 |_=>false
theorem aeQ {z:Nat} {r:Option (AV × Heap)} (h:isU z r=true):r=some (.int .u64 (z:Int),[]):=by
 unfold isU at h;split at h
 ·rw[of_decide_eq_true h]
 ·cases h
theorem aez:((cQ 65).all fun n=>isU (2 ^ n-1) (jN aq 100 MG [.int .i64 n] []))=true:=by kernel_rfl
theorem aey (n:Nat) (h:n<=64):bp aq MG [.int .i64 n] []=some (.int .u64 ((2 ^ n-1:Nat):Int),[]):=
 fF.2 ⟨100,aeQ (gL.1 aez n (eP.2 (by omega)))⟩
theorem aew:((cQ 64).all fun n=>isU (2 ^ n) (jN aq 100 ES [.int .i64 n] []))=true:=by kernel_rfl
theorem KU (n:Nat) (h:n<64):bp aq ES [.int .i64 n] []=some (.int .u64 ((2 ^ n:Nat):Int),[]):=
 fF.2 ⟨100,aeQ (gL.1 aew n (eP.2 (by omega)))⟩
theorem WX (x:Nat) (h0:x≠0) (hx:x<18446744073709551616):bp aq MF [.int .u64 x] []=some (.int .i64 (tz x:Nat),[]):=by
 have t:=Ja x h0 hx;rw[pM sQc8 (ah rfl)];generalize tz x=y at *;unfold qQc8 cQc8;simp[ac1,ac0,t,sQB,iQB,bk,bf]
end Go.BmP
/- What maxclique.Colour returns: the greedy colouring in the order given. -/

set_option maxHeartbeats 8000000
namespace Go.BmP
open Go.Am Go.Bm
def dj (N:Nat) (Es:List Ed) (v:Nat):List Int:=B9 N Es (v:Int)
theorem pn {N:Nat} {Es:List Ed} (hG:jh (N:Int) Es):NbOK (dj N Es) N:=by
 have hN:=hG.1.2;refine⟨fun v hv=>?_,fun v hv w hw=>?_,fun u v hu hv h=>?_,fun v hv h=>?_⟩
 ·have:=Q4 hG (u:=(v:Int)) (by omega) (by omega);unfold dj; omega
 ·have:=(Lj hG ((rW hG (by omega) (by omega) w).1 hw)).2.1;exact this
 ·have:=(rW hG (by omega) (by omega) _).1 h;exact (rW hG (by omega) (by omega) _).2 this.symm
 ·have:=(Lj hG ((rW hG (by omega) (by omega) _).1 h)).2.2;exact this rfl
theorem aci (L:List Int) (c:Nat) (hc:c<65):Ia (L++[(c:Int)])=(Ia L).set c true:=by
 refine List.ext_getElem (by rw[bI,rQ,rQ]) fun j h1 h2=>?_;rw[AP,List.getElem_set];by_cases e:c=j
 ·subst e;rw[if_pos rfl];exact decide_eq_true (by simp)
 ·rw[if_neg e,AP]
  have:((j:Int)∈L++[(c:Int)]) ↔ (j:Int)∈L:=by
   simp only[List.mem_append,List.mem_singleton];constructor
   ·rintro (h|h)
    ·exact h
    ·omega
   ·exact .inl
  exact decide_eq_decide.2 this
theorem ah9 (l:List Bool) (i:Nat) (x:Bool):As (l.set i x)=(As l).set i (.bool x):=by unfold As; rw[Nh]
theorem W3 (l:List Bool):∀(f:Nat->Rt) (n:Nat),fw f n (As l)=As l:=by
 induction l with
 |nil=>exact fun _ _=>rfl
 |cons x r ih=>
   intro f n;show AV.bool x::fw f (n+1) (As r)=_;rw[ih]; rfl
def Ip (C W:List Int) (j:Nat):List Bool:=Ia (zU C (W.take j))
theorem afC {C W:List Int} {j:Nat} (hj:j<W.length):Ip C W (j+1)=if 0<=C.getD W[j].toNat (-1) then Ia (zU C (W.take j)++[C.getD W[j].toNat (-1)]) else Ip C W j:=by
 unfold Ip;rw[List.take_succ_eq_append_getElem hj];have:zU C (W.take j++[W[j]])=zU C (W.take j)++zU C [W[j]]:=List.filterMap_append;rw[this];by_cases q:0<=C.getD W[j].toNat (-1)
 ·rw[if_pos q];have:zU C [W[j]]=[C.getD W[j].toNat (-1)]:=by simp only[zU,List.filterMap_cons,List.filterMap_nil,if_pos q]
  rw[this]
 ·rw[if_neg q];have:zU C [W[j]]=[]:=by simp only[zU,List.filterMap_cons,List.filterMap_nil,if_neg q]
  rw[this,List.append_nil]
def XD (B:XT) (C:List Int) (v:Int) (A:AV) (n i:Int) (W:List Int) (j:Int) (T:List Bool) (J:Env):St:=
 ⟨(2,.ptr 0 0)::(7,.own 1 (ints C))::(9,.int .i64 v)::(10,.ptr 1 0)::(36,A)::(37,.int .i64 n)::(38,.int .i64 i)::(44,.list 1 (ints W))::(45,.int .i64 W.length)::(46,.int .i64 j)::J,[B,some (As T)]⟩
theorem afp (N:Int) (Y:List AV) (C:List Int) (hC:∀c∈C,-1<=c/\c<65) (v:Int) (A:AV) (n i:Int) (W:List Int) (hW:W.length<65) (hw:∀w∈W,0<=w/\w<C.length) (j:Nat) (hj:j<W.length):aW aq 0 O0 (XD (some [.int .i64 N,.list 2 Y]) C v A n i W j (Ip C W j) [])=some (.normal,XD (some [.int .i64 N,.list 2 Y]) C v A n i W ((j+1:Nat):Int) (Ip C W (j+1)) []):=by
 rw[afC hj];have hwj:=hw W[j] (cI hj);obtain⟨x,hx⟩:∃x:Nat,W[j]=(x:Int):=⟨W[j].toNat,by omega⟩;have xl:x<C.length:=by omega
 have ht:W[j].toNat=x:=by omega
 rw[ht];have gd:C.getD x (-1)=C[x]:=by rw[aJ,an xl]; rfl
 rw[gd];have hc:=hC C[x] (cI xl);have j1:(j:Int)<W.length:=by omega
 have wr:=dM (i:=j) (by omega);have x1:(x:Int)<C.length:=by omega
 have gw:∀h,(ints W)[j]'h=.int .i64 (x:Int):=fun h=>by rw[aM,hx]
 have lW:=af W;have lC:=af C;have n2:=W3 (Ip C W j);have lT:(As (Ip C W j)).length=65:=by rw[m5]; exact rQ _
 unfold XD;by_cases q:0<=C[x]
 ·rw[if_pos q];obtain⟨y,hy⟩:∃y:Nat,C[x]=(y:Int):=⟨C[x].toNat,by omega⟩;have y1:(y:Int)<65:=by omega
  have y2:y<65:=by omega
  have y3:y<=64:=by omega
  have gc:∀h,(ints C)[x]'h=.int .i64 (y:Int):=fun h=>by rw[aM,hy]
  rw[hy,aci _ _ y2,ah9];change _=some (Ex.normal,(⟨_,[_,some ((As (Ip C W j)).set y (.bool true))]⟩:St));have y5:y<(As (Ip C W j)).length:=by omega
  have dx:(As (Ip C W j)).drop y=.bool ((Ip C W j)[y]'(by rwa [m5] at y5))::(As (Ip C W j)).drop (y+1):=by rw[aT y5,XI]
  have sx:(As (Ip C W j)).take y++.bool true::(As (Ip C W j)).drop (y+1)=(As (Ip C W j)).set y (.bool true):=by rw[FF,if_pos y5]
  generalize (Ip C W j)[y]'(by rwa [m5] at y5)=b0 at dx;generalize As (Ip C W j)=T at *;generalize ints W=W1 at *;generalize ints C=C1 at *;clear hC hw hwj;unfold O0;simp[uB,uA,uz,uy,ux,j1,hj,wr,x1,xl,gw,gc,lW,lC,lT,y1,y3,dx,sx,idx,aO]
 ·rw[if_neg q];have gc:∀h,(ints C)[x]'h=.int .i64 C[x]:=fun h=>by rw[aM]
  generalize C[x]=z at *;generalize As (Ip C W j)=T at *;generalize ints W=W1 at *;generalize ints C=C1 at *;clear hC hw hwj;unfold O0;simp[uB,uA,uz,uy,ux,j1,hj,wr,x1,xl,gw,gc,lW,lC,q,idx]
/- maxclique.Colour as a whole. -/
theorem ajp (N:Int) (Y:List AV) (C:List Int) (hC:∀c∈C,-1<=c/\c<65) (v:Int) (A:AV) (n i:Int) (W:List Int) (hW:W.length<65) (hw:∀w∈W,0<=w/\w<C.length):∀k j:Nat,j+k=W.length->aW aq 0 (.loop O0) (XD (some [.int .i64 N,.list 2 Y]) C v A n i W j (Ip C W j) [])=some (.exit 2,XD (some [.int .i64 N,.list 2 Y]) C v A n i W W.length (Ip C W W.length) [(47,.bool false)])
 |0,j,h=>by
   obtain rfl:j=W.length:=by omega
   refine bq ?_;unfold XD;generalize As (Ip C W W.length)=T;generalize ints W=W1;generalize ints C=C1;unfold O0;simp[uB,uA,uz,uy,ux]
 |k+1,j,h=>(aS (afp N Y C hC v A n i W hW hw j (by omega))).trans (ajp N Y C hC v A n i W hW hw k (j+1) (by omega))
theorem abI (L:List Int) (i:Nat) (x:Int):ints (L.set i x)=(ints L).set i (.int .i64 x):=by unfold ints; rw[Nh]
theorem aaI:∀l:List Bool,vT (As l)=some (As l)
 |[]=>rfl
 |x::r=>by
   show (match Vb (.bool x),vT (As r) with|some y,some ys=>some (y::ys)|_,_=>none)=_;rw[aaI r]; rfl
theorem af3:As (Ia [])=[.bool false,.bool false,.bool false,.bool false,.bool false,.bool false,.bool false,.bool false,.bool false,.bool false,.bool false,.bool false,.bool false,.bool false,.bool false,.bool false,.bool false,.bool false,.bool false,.bool false,.bool false,.bool false,.bool false,.bool false,.bool false,.bool false,.bool false,.bool false,.bool false,.bool false,.bool false,.bool false,.bool false,.bool false,.bool false,.bool false,.bool false,.bool false,.bool false,.bool false,.bool false,.bool false,.bool false,.bool false,.bool false,.bool false,.bool false,.bool false,.bool false,.bool false,.bool false,.bool false,.bool false,.bool false,.bool false,.bool false,.bool false,.bool false,.bool false,.bool false,.bool false,.bool false,.bool false,.bool false,.bool false]:=by rfl
theorem alS {N:Nat} {Es:List Ed} (hG:jh (N:Int) Es) (hE:Es.length<1000000) (C O:List Int) (hC:Cso (dj N Es) N C) (hO:∀v∈O,0<=v/\v<(N:Int)) (hl:O.length<1000000) (i:Nat) (hi:i<O.length):aW aq 0 Ui ⟨[(2,.ptr 0 0),(7,.own 1 (ints C)),(36,.list 1 (ints O)),(37,.int .i64 O.length),(38,.int .i64 i)],[some [.int .i64 N,.list 2 (bU Es)]]⟩=some (.normal,⟨[(2,.ptr 0 0),(7,.own 1 (ints (Wi (dj N Es) C O[i]))),(36,.list 1 (ints O)),(37,.int .i64 O.length),(38,.int .i64 ((i+1:Nat):Int))],[some [.int .i64 N,.list 2 (bU Es)]]⟩):=by
 have hN:=hG.1.2;have nb:=pn hG;obtain⟨v0,v1⟩:=hO O[i] (cI hi);obtain⟨v,hv⟩:∃v:Nat,O[i]=(v:Int):=⟨O[i].toNat,by omega⟩;have vN:v<N:=by omega
 have W64:=nb.len v vN;have gn:=ahl hG hE vN;have lp:=ajp (N:Int) (bU Es) C hC.rng (v:Int) (.list 1 (ints O)) O.length i (dj N Es v) W64 (fun w hw=>by rw[hC.len]; exact nb.rng v vN w hw) (dj N Es v).length 0 (by omega);have c0:Ip C (dj N Es v) 0=Ia []:=by unfold Ip; rw[List.take_zero]; rfl
 have c1:Ip C (dj N Es v) (dj N Es v).length=Ia (zU C (dj N Es v)):=by unfold Ip; rw[List.take_length]
 have nl:(zU C (dj N Es v)).length<65:=by have:=Q3 C (dj N Es v); omega
 have ix:=ahd _ nl
 have e:Wi (dj N Es) C O[i]=C.set v (OQ (zU C (dj N Es v)):Nat):=by
  unfold Wi;rw[hv];rfl
 rw[e,abI];rw[fi,c1] at lp;unfold XD at lp;rw[c0,af3] at lp;have lT:(As (Ia (zU C (dj N Es v)))).length=65:=by rw[m5]; exact rQ _
 have tT:(As (Ia (zU C (dj N Es v)))).take 65=As (Ia (zU C (dj N Es v))):=aZ (by omega);have fT:vT (As (Ia (zU C (dj N Es v))))=some (As (Ia (zU C (dj N Es v)))):=aaI _;change bp aq nQO _ []=some (.list 1 (ints (dj N Es v)),[]) at gn;generalize OQ (zU C (dj N Es v))=m at *;generalize As (Ia (zU C (dj N Es v)))=T at *;have i1:(i:Int)<O.length:=by omega
 have wr:=dM (i:=i) (by omega);have go:∀h,(ints O)[i]'h=.int .i64 (v:Int):=fun h=>by rw[aM,hv]
 have x1:(v:Int)<C.length:=by rw[hC.len]; omega
 have x2:v<C.length:=by rw[hC.len]; omega
 have lC:=af C;have lO:=af O;have lW:=af (dj N Es v);have pW:=cY (dj N Es v);have y5:v<(ints C).length:=by omega
 have dx:(ints C).drop v=.int .i64 C[v]::(ints C).drop (v+1):=by rw[aT y5,aM]
 have sx:(ints C).take v++.int .i64 (m:Int)::(ints C).drop (v+1)=(ints C).set v (.int .i64 (m:Int)):=by rw[FF,if_pos y5]
 generalize C[v]=z at dx;generalize dj N Es v=W at *;generalize bU Es=Y at *;generalize ints C=C1 at *;generalize ints O=O1 at *;generalize ints W=W1 at *;unfold Ui;simp[BM,BL,uD,uC,uw,uu,i1,hi,wr,go,x1,x2,lC,lO,lW,gn,lp,ix,lT,tT,fT,idx,aO,sQO,iQO,sQP,iQP,dP,pl]
/- Two sides, one first: two colours at most; a proper colouring stays proper without an edge. -/
theorem Xk {N:Nat} {Es:List Ed} (hG:jh (N:Int) Es) (O:List Int) (hO:∀v∈O,0<=v/\v<(N:Int)) (km:∀i:Nat,i<N->(i:Int)∈O):(rN (dj N Es) N O).length=N/\(∀i:Nat,i<N->0<=(rN (dj N Es) N O).getD i (-1))/\∀ e∈Es,(rN (dj N Es) N O).getD e.1.toNat (-1)≠(rN (dj N Es) N O).getD e.2.toNat (-1):=by
 have nb:=pn hG;obtain⟨ok,full⟩:=xj nb O (aH N (-1)) hO (qb _ _);refine⟨ok.len,fun i hi=>full i hi (.inr (km i hi)),fun e he=>?_⟩;have b:=hG.2.2 e he;have h1:e.1.toNat<N:=by omega
 have h2:e.2.toNat<N:=by omega
 refine ok.pro e.1.toNat e.2.toNat h1 h2 ?_ (full _ h1 (.inr (km _ h1)));show ((e.2.toNat:Nat):Int)∈B9 N Es ((e.1.toNat:Nat):Int);rw[rW hG (by omega) (by omega),show ((e.1.toNat:Nat):Int)=e.1 by omega,show ((e.2.toNat:Nat):Int)=e.2 by omega];exact .inl he
/- What maxclique.Colour returns. -/
theorem aaW {N:Nat} {Es:List Ed} (hG:jh (N:Int) Es) (hE:Es.length<1000000) (O:List Int) (hO:∀v∈O,0<=v/\v<(N:Int)) (hl:O.length<1000000):∀(k i:Nat) (C:List Int),i+k=O.length->Cso (dj N Es) N C->aW aq 0 (.loop Ui) ⟨[(2,.ptr 0 0),(7,.own 1 (ints C)),(36,.list 1 (ints O)),(37,.int .i64 O.length),(38,.int .i64 i)],[some [.int .i64 N,.list 2 (bU Es)]]⟩=some (.exit 0,⟨[(2,.ptr 0 0),(7,.own 1 (ints ((O.drop i).foldl (Wi (dj N Es)) C))),(36,.list 1 (ints O)),(37,.int .i64 O.length),(38,.int .i64 O.length),(39,.bool false)],[some [.int .i64 N,.list 2 (bU Es)]]⟩)
 |0,i,C,h,_=>by
   obtain rfl:i=O.length:=by omega
   rw[bK,List.foldl_nil];refine bq ?_;generalize ints C=C1;generalize ints O=O1;generalize bU Es=Y;unfold Ui;simp[BM,BL,uD,uC,uw,uu]
 |k+1,i,C,h,hC=>by
   have hi:i<O.length:=by omega
   rw[aT hi,List.foldl_cons];exact (aS (alS hG hE C O hC hO hl i hi)).trans (aaW hG hE O hO hl k (i+1) _ (by omega) (Wh (pn hG) hC (hO _ (cI hi))))
theorem LN {N:Nat} {Es:List Ed} (hG:jh (N:Int) Es) (hE:Es.length<1000000) (O:List Int) (hl:O.length=N) (hs:cV O=dN N) (hO:∀v∈O,0<=v/\v<(N:Int)):bp aq Z2 [.agg [.int .i64 N,.list 2 (bU Es)],.list 1 (ints O)] []=some (.dJ [.list 1 (ints (rN (dj N Es) N O)),.int .i64 0],[]):=by
 rw[pM sQq (ah rfl)];have hN:=hG.1.2;have g:=im N Es (by omega);rw[eB.2 hG] at g;have of:=QX O (by omega);rw[hs] at of;have rg:=Ky N;have rl:(dN (N:Int)).length<4294967295:=by rw[<-hs]; have:=iI O; omega
 have eq:=aaO (dN (N:Int)) (dN (N:Int)) rl;rw[decide_eq_true rfl] at eq;have rp:=agn N (by omega);have lp:=aaW hG hE O hO (by omega) O.length 0 (aH N (-1)) (by omega) (qb _ _);rw[bY,fi,hl] at lp;change aW aq 0 _ _=some (Ex.exit 0,(⟨[(2,.ptr 0 0),(7,.own 1 (ints (rN (dj N Es) N O))),(36,.list 1 (ints O)),(37,.int .i64 N),(38,.int .i64 N),(39,.bool false)],[some [.int .i64 N,.list 2 (bU Es)]]⟩:St)) at lp;have lg:(rN (dj N Es) N O).length=N:=(xj (pn hG) O _ hO (qb _ _)).1.len;have tk:(ints (rN (dj N Es) N O)).take N=ints (rN (dj N Es) N O):=aZ (by rw[af]; omega);have lO:(ints O).length=N:=by rw[af,hl]
 have lG:(ints (rN (dj N Es) N O)).length=N:=by rw[af,lg]
 have pr:=cY (dN (N:Int));have pg:=cY (rN (dj N Es) N O);have fg:=gT (rN (dj N Es) N O);generalize ints (rN (dj N Es) N O)=R1 at *;generalize ints (dN (N:Int))=R2 at *;have cR:=ak (aH N (-1));generalize ints (aH N (-1))=R3 at *;generalize ints O=O1 at *;generalize bU Es=Y at *;unfold qQq cQq;simp[BU,BT,BS,BR,BQ,BP,BO,BN,ur,g,cR,of,rg,eq,rp,lp,tk,lO,lG,aO,bk,bf,dP,pl,Mw,O7,sQF,iQF,sQM,iQM,sQL,iQL,sQN,iQN]
/- What maxclique.Proper returns of a proper colouring: true. -/
theorem Jb (env:Env) (H:Heap):trim H.length env H.length H=H:=by
 have:∀(l:Nat) (env:Env) (H:Heap),trim l env l H=H:=by
  intro l env H;cases l with
  |zero=>rfl
  |succ n=>unfold trim; rw[if_neg (by omega)]
 exact this _ _ _
def afQ (R:Heap):Prop:=(∀g,fI g R=R)/\fa R=true/\(∀p b,borH p b R=none)/\(∀f,Iq f R=false)/\∀ p b,sO p b R=[]
def pN (N:Int) (Y:List AV) (C:List Int):Heap:=[some [.int .i64 N,.list 2 Y],some [.list 1 (ints C)]]
theorem Zx (H:Heap) (hH:afQ H) (x:Int) (h:0<=x):bp aq Sf [.int .i64 x] H=some (.bool false,H):=by
 obtain⟨r1,r2,r3,r4,r5⟩:=hH;have q:¬x<0:=by omega
 rw[pM sQU (ah rfl)];unfold qQU cQU;simp[ads,adr,q,iD,fu,r1,r4,Jb,bk,bf]
theorem UE (N:Int) (Y:List AV) (C:List Int) (hl:C.length<1000000) (h:∀x∈C,0<=x):∀n i:Nat,i+n=C.length->aW aq 2 (.loop Dv) ⟨[(0,.list 1 (ints C)),(1,.func (.func Sf) [] []),(7,.int .i64 C.length),(8,.int .i64 i)],pN N Y C⟩=some (.exit 0,⟨[(0,.list 1 (ints C)),(1,.func (.func Sf) [] []),(7,.int .i64 C.length),(8,.int .i64 C.length),(9,.bool false)],pN N Y C⟩)
 |0,i,e=>by
   obtain rfl:i=C.length:=by omega
   refine bq ?_;unfold pN;generalize ints C=C1;unfold Dv;simp[CX,CW,CV,CU,CT]
 |n+1,i,e=>by
   have hi:i<C.length:=by omega
   have i1:(i:Int)<C.length:=by omega
   have w:=dM (i:=i) (by omega);have cv:=Zx (pN N Y C) ⟨fun _=>rfl,rfl,fun _ _=>rfl,fun _=>rfl,fun _ _=>rfl⟩ C[i] (h _ (cI hi));have g:∀h,(ints C)[i]'h=.int .i64 C[i]:=fun h=>aM _ _ _;have lC:=af C;have pC:=cY C;refine (aS ?_).trans (UE N Y C hl h n (i+1) (by omega));unfold pN at cv ⊢;generalize C[i]=x at *;generalize ints C=C1 at *;unfold Dv;simp[CX,CW,CV,CU,CT,i1,hi,w,cv,g,lC,idx,sQU,fu,cX,fa,dD,dt,dH,gR,jL,s5,gY,rI,o9,jS]
theorem Zw (N:Int) (Y:List AV) (C:List Int) (u v:Nat) (hu:u<C.length) (hv:v<C.length) (hl:C.length<1000000) (hn:C.getD u (-1)≠C.getD v (-1)):bp aq Se [.agg [.int .i64 u,.int .i64 v],.ptr 1 0] (pN N Y C)=some (.bool false,pN N Y C):=by
 have g1:C.getD u (-1)=C[u]:=by rw[aJ,an hu]; rfl
 have g2:C.getD v (-1)=C[v]:=by rw[aJ,an hv]; rfl
 rw[g1,g2] at hn;have e1:∀h,(ints C)[u]'h=.int .i64 C[u]:=fun h=>aM _ _ _;have e2:∀h,(ints C)[v]'h=.int .i64 C[v]:=fun h=>aM _ _ _;have lC:=af C;have i1:(u:Int)<C.length:=by omega
 have i2:(v:Int)<C.length:=by omega
 rw[pM sQW (ah rfl)];unfold pN;generalize C[u]=x at *;generalize C[v]=y at *;generalize ints C=C1 at *;unfold qQW cQW;simp[ado,adn,hu,hv,hn,e1,e2,lC,i1,i2,idx,aO,bk,bf,iD,fu,fI,dq,cZ,kM,iB,lM,kB]
theorem UD (N:Int) (Es:List Ed) (C:List Int) (hl:C.length<1000000) (hE:Es.length<1000000) (h:∀e∈Es,(0<=e.1/\e.1<C.length)/\(0<=e.2/\e.2<C.length)/\C.getD e.1.toNat (-1)≠C.getD e.2.toNat (-1)) (Y:List AV):∀n i:Nat,i+n=Es.length->aW aq 2 (.loop Du) ⟨[(0,.list 2 (bU Es)),(1,.func (.func Se) [] [.ptr 1 0]),(7,.int .i64 Es.length),(8,.int .i64 i)],pN N Y C⟩=some (.exit 0,⟨[(0,.list 2 (bU Es)),(1,.func (.func Se) [] [.ptr 1 0]),(7,.int .i64 Es.length),(8,.int .i64 Es.length),(9,.bool false)],pN N Y C⟩)
 |0,i,e=>by
   obtain rfl:i=Es.length:=by omega
   refine bq ?_;unfold pN;have lE:=az Es;generalize bU Es=E1 at *;generalize ints C=C1;unfold Du;simp[CP,CO,CN,CM,CL]
 |n+1,i,e=>by
   have hi:i<Es.length:=by omega
   have i1:(i:Int)<Es.length:=by omega
   have w:=dM (i:=i) (by omega);obtain⟨b1,b2,b3⟩:=h Es[i] (cI hi);obtain⟨u,hu⟩:∃u:Nat,Es[i].1=(u:Int):=⟨Es[i].1.toNat,by omega⟩;obtain⟨v,hv⟩:∃v:Nat,Es[i].2=(v:Int):=⟨Es[i].2.toNat,by omega⟩;have cv:=Zw N Y C u v (by omega) (by omega) hl (by rw[hu,hv] at b3; exact b3);have g0:(bU Es)[i]?=some (.agg [.int .i64 u,.int .i64 v]):=by rw[aQ,an hi]; show some (AV.agg [.int .i64 Es[i].1,.int .i64 Es[i].2])=_; rw[hu,hv]
   have g:∀h,(bU Es)[i]'h=.agg [.int .i64 u,.int .i64 v]:=fun h=>by rw[an h] at g0; exact dv g0
   have lE:=az Es;refine (aS ?_).trans (UD N Es C hl hE h Y n (i+1) (by omega));unfold pN at cv ⊢;generalize ints C=C1 at *;generalize bU Es=E1 at *;clear b1 b2 b3 hu hv;unfold Du;simp[CP,CO,CN,CM,CL,i1,hi,w,cv,g,lE,idx,sQW,fu,cX,fa,dD,dt,dH,gR,jL,s5,gY,rI,o9,jS]
theorem aa3 (N:Int) (Y:List AV) (C:List Int) (hl:C.length<1000000) (h:∀x∈C,0<=x):bp aq nQT [.list 1 (ints C),.func (.func Sf) [] []] (pN N Y C)=some (.bool false,pN N Y C):=by
 have i:bp aq KL [.list 1 (ints C),.func (.func Sf) [] []] (pN N Y C)=some (.int .i64 (-1),pN N Y C):=by
  have lp:=UE N Y C hl h C.length 0 (by omega);rw[fi] at lp;have lC:=af C;rw[pM sQb0 (ah rfl)];unfold pN at lp ⊢;generalize ints C=C1 at *;unfold qQb0 cQb0;simp[CZ,CY,CS,lp,lC,bk,bf,iD,fu,fI,dq,cZ,kM,iB,lM,kB]
 rw[pM sQT (ah rfl)];unfold pN at i ⊢;generalize ints C=C1 at *;unfold qQT cQT;simp[adu,adt,i,bk,bf,iD,fu,cX,fI,dq,cZ,kM,iB,lM,kB,sQb0,iQb0,fa,dD,dt,dH,gR,jL,s5,gY,rI,o9,jS]
theorem EC (l:List Ed):dP (bU l)=true/\cX (bU l)=true:=by
 induction l with
 |nil=>exact⟨rfl,rfl⟩
 |cons x r ih=>exact ih
theorem ah3 (N:Int) (Y:List AV) (Es:List Ed) (C:List Int) (hl:C.length<1000000) (hE:Es.length<1000000) (h:∀e∈Es,(0<=e.1/\e.1<C.length)/\(0<=e.2/\e.2<C.length)/\C.getD e.1.toNat (-1)≠C.getD e.2.toNat (-1)):bp aq nQV [.list 2 (bU Es),.func (.func Se) [] [.ptr 1 0]] (pN N Y C)=some (.bool false,pN N Y C):=by
 have i:bp aq KK [.list 2 (bU Es),.func (.func Se) [] [.ptr 1 0]] (pN N Y C)=some (.int .i64 (-1),pN N Y C):=by
  have lp:=UD N Es C hl hE h Y Es.length 0 (by omega);rw[fi] at lp;have lE:=az Es;rw[pM sQb1 (ah rfl)];unfold pN at lp ⊢;generalize ints C=C1 at *;generalize bU Es=E1 at *;clear h;unfold qQb1 cQb1;simp[CR,CQ,CK,lp,lE,bk,bf,iD,fu,fI,dq,cZ,kM,iB,lM,kB]
 rw[pM sQV (ah rfl)];unfold pN at i ⊢;generalize ints C=C1 at *;generalize bU Es=E1 at *;clear h;unfold qQV cQV;simp[adq,adp,i,bk,bf,iD,fu,cX,fI,dq,cZ,kM,iB,lM,kB,sQb1,iQb1,fa,dD,dt,dH,gR,jL,s5,gY,rI,o9,jS]
theorem Wz {N:Nat} {Es:List Ed} (hG:jh (N:Int) Es) (hE:Es.length<1000000) (C:List Int) (hl:C.length=N) (h0:∀x∈C,0<=x) (h:∀e∈Es,C.getD e.1.toNat (-1)≠C.getD e.2.toNat (-1)):bp aq TQ [.agg [.int .i64 N,.list 2 (bU Es)],.list 1 (ints C)] []=some (.bool true,[]):=by
 have hN:=hG.1.2;have g:=im N Es (by omega);rw[eB.2 hG] at g;have c1:=aa3 N (bU Es) C (by omega) h0
 have c2:=ah3 N (bU Es) Es C (by omega) hE (fun e he=>by
  have b:=hG.2.2 e he;exact⟨⟨by omega,by omega⟩,⟨by omega,by omega⟩,h e he⟩)
 have lC:(ints C).length=N:=by rw[af,hl]
 have pC:=cY C;have pE:=EC Es;rw[pM sQs (ah rfl)];unfold pN at c1 c2;generalize ints C=C1 at *;generalize bU Es=Y at *;clear h h0;unfold qQs cQs;simp[NR,NQ,NP,NO,g,c1,c2,lC,aO,bk,bf,fu,cX,Mw,O7,sQT,iQT,sQV,iQV,fa,dD,dt,dH,gR,jL,s5,gY,rI,o9,jS]
end Go.BmP
