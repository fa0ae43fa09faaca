/- The number of bits of a word, by the sums of its bytes. -/
import Derived.Test.YtmildmgogdmknaaGreatDoorGrfP
import Derived.Laws.BitsAllLaws
set_option linter.unusedSimpArgs false
set_option linter.unusedVariables false
open Classical renaming byContradiction → ep
open Int renaming natCast_add → AK
open List renaming filter_cons → nC, length_cons → cN, mem_cons → aK, mem_cons_of_mem → dh, mem_cons_self → cH, mem_range → eP, pairwise_cons → aX, range → cQ
open Nat renaming and_le_left → jm, and_two_pow_sub_one_eq_mod → I4, lt_of_lt_of_le → ff, lt_trans → VX, pow_le_pow_right → iU, testBit_and → cm, testBit_lt_two_pow → sB, testBit_two_pow_mul_add → kU
namespace Go.BmP
open Go.Am Go.Bm
def Sh (u:Nat):Nat->Nat
 |0=>0
 |k+1=>256*Sh u k+u
theorem and8 (y b M u:Nat) (hb:b<256) (hu:u<256):(256*y+b) &&& (256*M+u)=256*(y &&& M)+(b &&& u):=by
 apply Nat.eq_of_testBit_eq;intro j;have h3:b &&& u<2 ^ 8:=Nat.lt_of_le_of_lt jm hb;have e1:=kU y (b:=b) (i:=8) hb j;have e2:=kU M (b:=u) (i:=8) hu j;have e3:=kU (y &&& M) (b:=b &&& u) (i:=8) h3 j;rw[show (2:Nat) ^ 8=256 from rfl] at e1 e2 e3;rw[cm,e1,e2,e3];split
 ·rw[cm]
 ·rw[cm]
def fA (k x:Nat):Nat:=(x / 2 &&& Sh 85 k)+(x &&& Sh 85 k)
def fB (k x:Nat):Nat:=(x / 4 &&& Sh 51 k)+(x &&& Sh 51 k)
def fC (k x:Nat):Nat:=(x / 16+x) &&& Sh 15 k
def bA (b:Nat):Nat:=(b / 2 &&& 85)+(b &&& 85)
def bB (b:Nat):Nat:=(b / 4 &&& 51)+(b &&& 51)
def MB (b:Nat):Nat:=(bB (bA b) / 16+bB (bA b))%16
theorem byA:∀b:Fin 256,∀r:Fin 2,(128*r.val+b.val / 2 &&& 85)=(b.val / 2 &&& 85)/\bA b.val<256:=by decide +kernel
theorem byB:∀b:Fin 256,∀r:Fin 4,(64*r.val+b.val / 4 &&& 51)=(b.val / 4 &&& 51)/\bB b.val<256:=by decide +kernel
theorem byC:∀b:Fin 256,bB (bA b.val)<=68/\bB (bA b.val)%16<=4/\MB b.val<=8/\MB b.val=((cQ 8).filter fun j=>b.val.testBit j).length:=by decide +kernel
theorem ahv (k y b:Nat) (hb:b<256):fA (k+1) (256*y+b)=256*fA k y+bA b:=by
 unfold fA bA;rw[show Sh 85 (k+1)=256*Sh 85 k+85 from rfl];have e:(256*y+b) / 2=256*(y / 2)+(128*(y%2)+b / 2):=by omega
 have h1:=(byA ⟨b,hb⟩ ⟨y%2,by omega⟩).1;simp only at h1;rw[e,and8 _ _ _ _ (by omega) (by omega),and8 _ _ _ _ hb (by omega),h1];omega
theorem ahu (k y b:Nat) (hb:b<256):fB (k+1) (256*y+b)=256*fB k y+bB b:=by
 unfold fB bB;rw[show Sh 51 (k+1)=256*Sh 51 k+51 from rfl];have e:(256*y+b) / 4=256*(y / 4)+(64*(y%4)+b / 4):=by omega
 have h1:=(byB ⟨b,hb⟩ ⟨y%4,by omega⟩).1;simp only at h1;rw[e,and8 _ _ _ _ (by omega) (by omega),and8 _ _ _ _ hb (by omega),h1];omega
theorem aht (k y b:Nat) (hb:b<=68) (hy:y%16<=4):fC (k+1) (256*y+b)=256*fC k y+(b / 16+b)%16:=by
 unfold fC;rw[show Sh 15 (k+1)=256*Sh 15 k+15 from rfl];have e:(256*y+b) / 16+(256*y+b)=256*(y / 16+y)+(16*(y%16)+b / 16+b):=by omega
 have e2:(16*(y%16)+b / 16+b) &&& 15=(b / 16+b)%16:=by
  rw[show (15:Nat)=2 ^ 4-1 from rfl,I4];omega
 rw[e,and8 _ _ _ _ (by omega) (by omega),e2]
def pcW:Nat->Nat->Nat
 |0,_=>0
 |k+1,x=>256*pcW k (x / 256)+MB (x%256)
theorem fABC:∀k x:Nat,fB k (fA k x)%16<=4/\fC k (fB k (fA k x))=pcW k x/\fA k x<256 ^ k/\fB k (fA k x)<256 ^ k/\fB k (fA k x) / 16+fB k (fA k x)<256 ^ k
 |0,x=>by
   have h1:∀y,fA 0 y=0:=fun y=>by simp[fA,Sh]
   have h2:∀y,fB 0 y=0:=fun y=>by simp[fB,Sh]
   have h3:∀y,fC 0 y=0:=fun y=>by simp[fC,Sh]
   rw[h1,h2,h3];simp[pcW]
 |k+1,x=>by
   obtain⟨i1,i2,i3,i4,i5⟩:=fABC k (x / 256);have hb:x%256<256:=Nat.mod_lt _ (by omega);have ex:256*(x / 256)+x%256=x:=Nat.div_add_mod _ _;have a1:=ahv k (x / 256) (x%256) hb;rw[ex] at a1;have hA:=(byA ⟨x%256,hb⟩ 0).2;obtain⟨c1,c2,c3,_⟩:=byC ⟨x%256,hb⟩;simp only at hA c1 c2 c3;have c4:bB (bA (x%256))%16<=4:=c2;have b1:=ahu k (fA k (x / 256)) (bA (x%256)) hA;rw[<-a1] at b1;have d1:=aht k (fB k (fA k (x / 256))) (bB (bA (x%256))) c1 i1;rw[<-b1] at d1;have e1:256 ^ (k+1)=256*256 ^ k:=by rw[Nat.pow_succ,Nat.mul_comm]
   refine⟨by rw[b1,show (256:Nat)=16*16 from rfl,Nat.mul_assoc,Nat.mul_add_mod]; exact c4,by rw[d1,i2]; rfl,by rw[a1,e1]; omega,by rw[b1,e1]; omega,by rw[b1,e1]; omega⟩
theorem ab6 (k y b:Nat) (hb:b<256):((cQ (8*(k+1))).filter fun j=>(256*y+b).testBit j).length=((cQ 8).filter fun j=>b.testBit j).length+((cQ (8*k)).filter fun j=>y.testBit j).length:=by
 rw[show 8*(k+1)=8+8*k by omega,List.range_add,List.filter_append,List.length_append];have e1:∀j,(256*y+b).testBit j=if j<8 then b.testBit j else y.testBit (j-8):=kU y (b:=b) (i:=8) hb;congr 1
 ·congr 1;refine List.filter_congr fun j hj=>?_;rw[e1,if_pos (eP.1 hj)]
 ·rw[List.filter_map,List.length_map];congr 1;refine List.filter_congr fun j _=>?_;simp only[Function.comp];rw[e1,if_neg (by omega),Nat.add_sub_cancel_left]
def lI (m:Nat):Nat:=((cQ 64).filter fun j=>m.testBit j).length
theorem abv (m:Nat) (h:m<2 ^ 64):lI m=MB (m%256)+(MB (m / 256%256)+(MB (m / 256 / 256%256)+(MB (m / 256 / 256 / 256%256)+(MB (m / 256 / 256 / 256 / 256%256)+(MB (m / 256 / 256 / 256 / 256 / 256%256)+(MB (m / 256 / 256 / 256 / 256 / 256 / 256%256)+MB (m / 256 / 256 / 256 / 256 / 256 / 256 / 256%256))))))):=by
 have st:∀k x,((cQ (8*(k+1))).filter fun j=>x.testBit j).length=MB (x%256)+((cQ (8*k)).filter fun j=>(x / 256).testBit j).length:=by
  intro k x;have hb:x%256<256:=Nat.mod_lt _ (by omega);have:=ab6 k (x / 256) (x%256) hb;rw[Nat.div_add_mod] at this;rw[this,(byC ⟨x%256,hb⟩).2.2.2]
 unfold lI;rw[show (64:Nat)=8*(7+1) from rfl,st,show (8*7:Nat)=8*(6+1) from rfl,st,show (8*6:Nat)=8*(5+1) from rfl,st,show (8*5:Nat)=8*(4+1) from rfl,st,show (8*4:Nat)=8*(3+1) from rfl,st,show (8*3:Nat)=8*(2+1) from rfl,st,show (8*2:Nat)=8*(1+1) from rfl,st,show (8*1:Nat)=8*(0+1) from rfl,st];simp
theorem PU {n:Nat} (h:n<2 ^ 64):IntKind.u64.wrap (n:Int)=n:=by
 rw[IntKind.wrap_u64];omega
theorem UK (a b:Nat) (ha:a<9223372036854775808) (hb:b<9223372036854775808):bits .and .i64 (a:Int) (b:Int)=((a &&& b:Nat):Int):=by
 have hx:a &&& b<2 ^ 63:=Nat.and_lt_two_pow _ (by omega);show IntKind.i64.wrap ((BitVec.ofInt 64 (a:Int) &&& BitVec.ofInt 64 (b:Int)).toNat:Int)=_;rw[BitVec.toNat_and,ofInt_u64 a (by omega),ofInt_u64 b (by omega),IntKind.wrap_i64];omega
theorem aaN (m n:Nat) (hn:0<n):(m:Int).fdiv (n:Int)=((m / n:Nat):Int):=by
 rw[Int.fdiv_eq_ediv_of_nonneg _ (by omega)]; rfl
def pxA (x:Int):Int:=IntKind.u64.wrap (bits .and .u64 (x.fdiv 2) 6148914691236517205+bits .and .u64 x 6148914691236517205)
def pxB (x:Int):Int:=IntKind.u64.wrap (bits .and .u64 (x.fdiv 4) 3689348814741910323+bits .and .u64 x 3689348814741910323)
def pxC (x:Int):Int:=bits .and .u64 (IntKind.u64.wrap (x.fdiv 16+x)) 1085102592571150095
def pxD (n:Int) (x:Int):Int:=IntKind.u64.wrap (x+x.fdiv n)
def pxE (x:Int):Int:=bits .and .i64 (IntKind.i64.wrap (pxD 4294967296 (pxD 65536 (pxD 256 (pxC (pxB (pxA x))))))) 127
theorem akz (m:Nat) (h:m<2 ^ 64) (g:fA 8 m<2 ^ 64):pxA (m:Int)=(fA 8 m:Nat):=by
 have k1:Sh 85 8=6148914691236517205:=by decide
 unfold fA at g ⊢;rw[k1] at g ⊢;unfold pxA;have a1:=u64_and_nat (m / 2) 6148914691236517205 (by omega) (by decide);have a2:=u64_and_nat m 6148914691236517205 (by omega) (by decide);have d:=aaN m 2 (by decide);generalize m / 2 &&& 6148914691236517205=p at *;generalize m &&& 6148914691236517205=q at *;have d':(m:Int).fdiv 2=((m / 2:Nat):Int):=d;have a1':bits .and .u64 ((m / 2:Nat):Int) 6148914691236517205=(p:Int):=a1;have a2':bits .and .u64 (m:Int) 6148914691236517205=(q:Int):=a2;rw[d',a1',a2',<-AK,PU g]
theorem aky (a:Nat) (h:a<2 ^ 64) (g:fB 8 a<2 ^ 64):pxB (a:Int)=(fB 8 a:Nat):=by
 have k2:Sh 51 8=3689348814741910323:=by decide
 unfold fB at g ⊢;rw[k2] at g ⊢;unfold pxB;have a1:=u64_and_nat (a / 4) 3689348814741910323 (by omega) (by decide);have a2:=u64_and_nat a 3689348814741910323 (by omega) (by decide);have d:=aaN a 4 (by decide);generalize a / 4 &&& 3689348814741910323=p at *;generalize a &&& 3689348814741910323=q at *;have d':(a:Int).fdiv 4=((a / 4:Nat):Int):=d;have a1':bits .and .u64 ((a / 4:Nat):Int) 3689348814741910323=(p:Int):=a1;have a2':bits .and .u64 (a:Int) 3689348814741910323=(q:Int):=a2;rw[d',a1',a2',<-AK,PU g]
theorem akx (b:Nat) (g:b / 16+b<2 ^ 64):pxC (b:Int)=(fC 8 b:Nat):=by
 have k3:Sh 15 8=1085102592571150095:=by decide
 unfold fC;rw[k3];unfold pxC;have d:=aaN b 16 (by decide);have d':(b:Int).fdiv 16=((b / 16:Nat):Int):=d;have a1:=u64_and_nat (b / 16+b) 1085102592571150095 (by omega) (by decide);generalize (b / 16+b) &&& 1085102592571150095=p at *;have a1':bits .and .u64 ((b / 16+b:Nat):Int) 1085102592571150095=(p:Int):=a1;rw[d',<-AK,PU g,a1']
theorem Wy (n x:Nat) (hn:0<n) (g:x+x / n<2 ^ 64):pxD (n:Int) (x:Int)=((x+x / n:Nat):Int):=by
 unfold pxD;rw[aaN x n hn,<-AK,PU g]
theorem al5 {c0 c1 c2 c3 c4 c5 c6 c7 x y z:Nat} (h0:c0<=8) (h1:c1<=8) (h2:c2<=8) (h3:c3<=8) (h4:c4<=8) (h5:c5<=8) (h6:c6<=8) (h7:c7<=8)
  (ex:x=256*(256*(256*(256*(256*(256*(256*c7+c6)+c5)+c4)+c3)+c2)+c1)+c0) (ey:y=x+x / 256) (ez:z=y+y / 65536) :
  x+x / 256<2 ^ 62/\y+y / 65536<2 ^ 62/\z+z / 4294967296<2 ^ 62/\(z+z / 4294967296)%128=c0+(c1+(c2+(c3+(c4+(c5+(c6+c7)))))):=by
 have ey2:y=256*(256*(256*(256*(256*(256*(256*c7+(c6+c7))+(c5+c6))+(c4+c5))+(c3+c4))+(c2+c3))+(c1+c2))+(c0+c1):=by omega
 have ez2:z=256*(256*(256*(256*(256*(256*(256*c7+(c6+c7))+(c5+c6+c7))+(c4+c5+(c6+c7)))+(c3+c4+(c5+c6)))+(c2+c3+(c4+c5)))+(c1+c2+(c3+c4)))+(c0+c1+(c2+c3)):=by
  clear ey ex;omega
 refine⟨?_,?_,?_,?_⟩
 ·clear ez2 ez ey2 ey; omega
 ·clear ez2 ez ey ex; omega
 ·clear ez ey2 ey ex; omega
 ·clear ez ey2 ey ex;have eq:z / 4294967296=256*(256*(256*c7+(c6+c7))+(c5+c6+c7))+(c4+c5+(c6+c7)):=by omega
  rw[eq];obtain⟨A,eA⟩:∃A,z=256*A+(c0+c1+(c2+c3)):=⟨_,ez2⟩;rw[eA];clear eA ez2 eq;omega
theorem Zr (m:Nat) (h:m<2 ^ 64):pxE (m:Int)=(lI m:Int):=by
 obtain⟨g1,g2,g3,g4,g5⟩:=fABC 8 m;have e256:(256:Nat) ^ 8=2 ^ 64:=by decide
 rw[e256] at g3 g4 g5;have b8:∀x,MB (x%256)<=8:=fun x=>(byC ⟨x%256,Nat.mod_lt _ (by decide)⟩).2.2.1;have ew:pcW 8 m=256*(256*(256*(256*(256*(256*(256*(256*0+MB (m / 256 / 256 / 256 / 256 / 256 / 256 / 256%256))+MB (m / 256 / 256 / 256 / 256 / 256 / 256%256))+MB (m / 256 / 256 / 256 / 256 / 256%256))+MB (m / 256 / 256 / 256 / 256%256))+MB (m / 256 / 256 / 256%256))+MB (m / 256 / 256%256))+MB (m / 256%256))+MB (m%256):=rfl;rw[Nat.mul_zero,Nat.zero_add] at ew;obtain⟨t1,t2,t3,t4⟩:=al5 (b8 m) (b8 (m / 256)) (b8 (m / 256 / 256)) (b8 (m / 256 / 256 / 256)) (b8 (m / 256 / 256 / 256 / 256)) (b8 (m / 256 / 256 / 256 / 256 / 256)) (b8 (m / 256 / 256 / 256 / 256 / 256 / 256)) (b8 (m / 256 / 256 / 256 / 256 / 256 / 256 / 256)) ew rfl rfl;have t64:(2:Nat) ^ 62<2 ^ 64:=by decide
 unfold pxE;rw[akz m h g3,aky _ g3 g4,akx _ g5,g2,abv m h,<-t4];generalize pcW 8 m=x at *;have s1:=Wy 256 x (by decide) (VX t1 t64);have s2:=Wy 65536 (x+x / 256) (by decide) (VX t2 t64);have s3:=Wy 4294967296 (x+x / 256+(x+x / 256) / 65536) (by decide) (VX t3 t64);have My:pxD 256 (x:Int)=_:=s1;have s2':pxD 65536 ((x+x / 256:Nat):Int)=_:=s2;have s3':pxD 4294967296 ((x+x / 256+(x+x / 256) / 65536:Nat):Int)=_:=s3;rw[My,s2',s3'];generalize x+x / 256+(x+x / 256) / 65536+(x+x / 256+(x+x / 256) / 65536) / 4294967296=f at *
 have w:IntKind.i64.wrap (f:Int)=(f:Int):=by
  rw[IntKind.wrap_i64]; omega
 have a1:=UK f 127 (by omega) (by decide);have a1':bits .and .i64 (f:Int) 127=((f &&& 127:Nat):Int):=a1;rw[w,a1',show (127:Nat)=2 ^ 7-1 from rfl,I4]
/- Cliques within a set of bits: what the search for a largest one keeps. -/
def Kq (A:List Nat) (S:List Nat):Prop:=S.Pairwise fun a b=>a<b/\(A.getD a 0).testBit b=true
def FB (m:Nat) (S:List Nat):Prop:=∀x∈S,m.testBit x=true
def Sym (A:List Nat):Prop:=∀a b:Nat,(A.getD a 0).testBit b=(A.getD b 0).testBit a
def wo (m v:Nat):Nat:=m &&& (18446744073709551615-2 ^ v)
theorem fW {m v:Nat} (hm:m<18446744073709551616) (hv:v<64) (j:Nat):(wo m v).testBit j=(m.testBit j&&decide (j≠v)):=by
 unfold wo;rw[cm];have h2:(2:Nat) ^ v<2 ^ 64:=Nat.pow_lt_pow_right (by decide) hv;have e:18446744073709551615-2 ^ v=2 ^ 64-(2 ^ v+1):=by omega
 rw[e,Nat.testBit_two_pow_sub_succ h2,Nat.testBit_two_pow];by_cases hj:j<64
 ·by_cases k:v=j
  ·subst k; simp
  ·have k':¬j=v:=fun h=>k h.symm;simp[hj,k,k']
 ·have:m.testBit j=false:=sB (ff hm (by
   rw[show (18446744073709551616:Nat)=2 ^ 64 from rfl];exact iU (by decide) (by omega)))
  simp[this]
theorem X0 {m v:Nat} (hm:m<18446744073709551616) (hv:v<64) (hb:m.testBit v=true):wo m v<m:=by
 have hle:wo m v<=m:=jm;rcases Nat.lt_or_eq_of_le hle with h|h
 ·exact h
 ·exfalso;have:=fW hm hv v;rw[h,hb] at this;simp at this
theorem UI {S:List Nat} (h:FB 0 S):S=[]:=by
 cases S with
 |nil=>rfl
 |cons x r=>have:=h x cH; simp at this
theorem Uz {A:List Nat} {m:Nat} (h0:m≠0) (hm:m<18446744073709551616) {S:List Nat} (hK:Kq A S) (hI:FB m S) :
  FB (wo m (tz m)) S\/∃ T,S=tz m::T/\Kq A T/\FB (wo m (tz m) &&& A.getD (tz m) 0) T:=by
 obtain⟨_,_,hv⟩:=kY h0 hm;obtain⟨b1,b2⟩:=ug h0 hm;cases S with
 |nil=>exact .inl fun x hx=>by simp at hx
 |cons x r=>
   obtain⟨p1,p2⟩:=aX.1 hK;have hx:=hI x cH
   have hge:tz m<=x:=by
    apply ep;intro h;have:=b2 x (by omega);rw[hx] at this; cases this
   by_cases e:x=tz m
   ·right;subst e;refine⟨r,rfl,p2,fun y hy=>?_⟩;obtain⟨q1,q2⟩:=p1 y hy;rw[cm,fW hm hv,q2,hI y (dh _ hy)];simp; omega
   ·left;intro y hy;have hy1:=hI y hy;rw[fW hm hv,hy1]
    have:tz m<y:=by
     rcases aK.1 hy with rfl|hy
     ·omega
     ·have:=(p1 y hy).1; omega
    simp; omega
def Rg (A:List Nat) (size m:Nat) (uO aa7:Int):Prop:=uO<=aa7/\(∀S,Kq A S->FB m S->(size:Int)+S.length<=aa7)/\(aa7=uO\/∃ S,Kq A S/\FB m S/\aa7=(size:Int)+S.length)
theorem P5 {A:List Nat} {size m:Nat} {uO:Int} (h:∀S,Kq A S->FB m S->(size:Int)+S.length<=uO):Rg A size m uO uO:=⟨Int.le_refl _,h,.inl rfl⟩
theorem agi {A:List Nat} {size:Nat} {uO:Int} (h:(size:Int)<=uO):Rg A size 0 uO uO:=P5 fun S _ hI=>by rw[UI hI]; simpa using h
theorem aha {A:List Nat} {m:Nat} (h0:m≠0) (hm:m<18446744073709551616) {T:List Nat} (hK:Kq A T) (hI:FB (wo m (tz m) &&& A.getD (tz m) 0) T):Kq A (tz m::T)/\FB m (tz m::T):=by
 obtain⟨_,_,hv⟩:=kY h0 hm;obtain⟨b1,b2⟩:=ug h0 hm
 have hT:∀x∈T,m.testBit x=true/\x≠tz m/\(A.getD (tz m) 0).testBit x=true:=by
  intro x hx;have:=hI x hx;rw[cm,fW hm hv] at this;simpa[and_assoc] using this
 refine⟨aX.2 ⟨fun x hx=>?_,hK⟩,fun x hx=>?_⟩
 ·obtain⟨h1,h2,h3⟩:=hT x hx;refine⟨?_,h3⟩;apply ep;intro h;have:=b2 x (by omega);rw[h1] at this; cases this
 ·rcases aK.1 hx with rfl|hx
  ·exact b1
  ·exact (hT x hx).1
theorem agj {A:List Nat} {size m:Nat} {uO b2 b3:Int} (h0:m≠0) (hm:m<18446744073709551616) (h2:Rg A (size+1) (wo m (tz m) &&& A.getD (tz m) 0) uO b2) (h3:Rg A size (wo m (tz m)) b2 b3):Rg A size m uO b3:=by
 obtain⟨_,_,hv⟩:=kY h0 hm;obtain⟨a1,a2,a3⟩:=h2;obtain⟨c1,c2,c3⟩:=h3
 have sub:∀S,FB (wo m (tz m)) S->FB m S:=fun S h x hx=>by
  have:=h x hx;rw[fW hm hv] at this;simp at this;exact this.1
 refine⟨Int.le_trans a1 c1,fun S hK hI=>?_,?_⟩
 ·rcases Uz h0 hm hK hI with h|⟨T,rfl,hT,hTI⟩
  ·exact c2 S hK h
  ·have:=a2 T hT hTI;simp only[cN];omega
 ·rcases c3 with rfl|⟨S,h1,h2,h3⟩
  ·rcases a3 with rfl|⟨T,h1,h2,h3⟩
   ·exact .inl rfl
   ·obtain⟨k1,k2⟩:=aha h0 hm h1 h2;exact .inr ⟨_,k1,k2,by simp only[cN]; omega⟩
  ·exact .inr ⟨S,h1,sub S h2,h3⟩
def mxI (a b:Int):Int:=if a<b then b else a
theorem acA {A:List Nat} {size m:Nat} {uO b':Int} (h:Rg A size m (mxI uO size) b'):Rg A size m uO b':=by
 have hm:uO<=mxI uO size/\(mxI uO size=uO\/mxI uO size=size):=by unfold mxI; split<;>omega
 obtain⟨a1,a2,a3⟩:=h;refine⟨by omega,a2,?_⟩;rcases a3 with rfl|h
 ·rcases hm.2 with k|k
  ·left; exact k
  ·right;exact⟨[],.nil,fun x hx=>by simp at hx,by simp[k]⟩
 ·exact .inr h
theorem RX:∀{S T:List Nat},S.Pairwise (·<·)->T.Pairwise (·<·)->(∀x∈S,x∈T)->S.length<=T.length
 |[],T,_,_,_=>Nat.zero_le _
 |x::r,[],_,_,h=>absurd (h x cH) (by simp)
 |x::r,y::s,hS,hT,h=>by
   obtain⟨s1,s2⟩:=aX.1 hS;obtain⟨t1,t2⟩:=aX.1 hT;by_cases e:x=y
   ·subst e
    have:=RX s2 t2 fun z hz=>by
     rcases aK.1 (h z (dh _ hz)) with rfl|k
     ·exact absurd (s1 z hz) (by omega)
     ·exact k
    simp only[cN]; omega
   ·have hx:x∈s:=(aK.1 (h x cH)).resolve_left e;have hyx:=t1 x hx
    have:=RX hS t2 fun z hz=>by
     rcases aK.1 (h z hz) with rfl|k
     ·rcases aK.1 hz with rfl|k
      ·exact absurd rfl e
      ·have:=s1 z k; omega
     ·exact k
    simp only[cN] at this ⊢; omega
theorem Rr {A:List Nat} {m:Nat} {S:List Nat} (hm:m<18446744073709551616) (hK:Kq A S) (hI:FB m S):S.length<=((cQ 64).filter fun j=>m.testBit j).length:=by
 refine RX (hK.imp fun h=>h.1) ((List.pairwise_lt_range).filter _) fun x hx=>?_;refine List.mem_filter.2 ⟨eP.2 ?_,hI x hx⟩;apply ep;intro k
 have:m.testBit x=false:=sB (ff hm (by
  rw[show (18446744073709551616:Nat)=2 ^ 64 from rfl];exact iU (by decide) (by omega)))
 rw[hI x hx] at this; cases this
def cnm (m:Nat) (S:List Nat):Nat:=(S.filter fun x=>m.testBit x).length
def ClsI (A:List Nat) (m kv free:Nat):Prop:=(∀x,free.testBit x=true->kv.testBit x=true)/\∀ S,Kq A S->cnm m S=cnm kv S\/(cnm m S=cnm kv S+1/\∀ x∈S,free.testBit x=false)
theorem abT (A:List Nat) (m:Nat):ClsI A m m m:=⟨fun _ h=>h,fun _ _=>.inl rfl⟩
theorem afr {m v:Nat} (hm:m<18446744073709551616) (hv:v<64):∀{S:List Nat},S.Pairwise (·<·)->cnm m S=cnm (wo m v) S+(if v∈S/\m.testBit v=true then 1 else 0)
 |[],_=>by simp[cnm]
 |x::r,h=>by
   obtain⟨h1,h2⟩:=aX.1 h;have ih:=afr hm hv h2;unfold cnm at ih ⊢;have hb:=fW hm hv x;by_cases e:x=v
   ·subst e;have hr:x∉r:=fun k=>absurd (h1 x k) (by omega);simp only[nC,hb,hr,aK,true_or,true_and,false_and,if_false,Nat.add_zero] at ih ⊢;by_cases q:m.testBit x=true
    ·simp[q,ih]
    ·simp[q,ih]
   ·have e':¬v=x:=fun k=>e k.symm;simp only[nC,hb,aK,e',false_or] at ih ⊢;by_cases q:m.testBit x=true
    ·simp[q,e,ih]; omega
    ·simp[q,e,ih]
theorem aft {A:List Nat} (hA:Sym A) {m kv free:Nat} (ha:kv<18446744073709551616) (hf:free<18446744073709551616) (h0:free≠0) (h:ClsI A m kv free) {ajm:Nat} (hfr:∀x,ajm.testBit x=(free.testBit x&&(decide (x≠tz free)&&!(A.getD (tz free) 0).testBit x))):ClsI A m (wo kv (tz free)) ajm:=by
 obtain⟨_,_,hv⟩:=kY h0 hf;obtain⟨b1,_⟩:=ug h0 hf;obtain⟨i1,i2⟩:=h;refine⟨fun x hx=>?_,fun S hK=>?_⟩
 ·rw[hfr] at hx;simp at hx;rw[fW ha hv,i1 x hx.1];simp[hx.2.1]
 ·have hc:=afr ha hv (S:=S) (hK.imp fun h=>h.1);by_cases hin:tz free∈S
  ·rw[if_pos ⟨hin,i1 _ b1⟩] at hc;rcases i2 S hK with k|⟨_,k⟩
   ·right;refine⟨by omega,fun x hx=>?_⟩;rw[hfr];by_cases e:x=tz free
    ·simp[e]
    ·have:(A.getD (tz free) 0).testBit x=true:=by
      have hp:=List.pairwise_iff_getElem.1 hK;obtain⟨i,hi,ei⟩:=List.getElem_of_mem hin;obtain⟨j,hj,ej⟩:=List.getElem_of_mem hx;rcases Nat.lt_trichotomy i j with q|q|q
      ·have:=(hp i j hi hj q).2; rw[ei,ej] at this; exact this
      ·subst q; exact absurd (ej.symm.trans ei) e
      ·have:=(hp j i hj hi q).2; rw[ei,ej] at this; rw[hA]; exact this
     simp only[this,Bool.not_true,Bool.and_false]
   ·have:=k _ hin;rw[b1] at this; cases this
  ·rw[if_neg (fun k=>hin k.1)] at hc;rcases i2 S hK with k|⟨k1,k2⟩
   ·left; omega
   ·right;refine⟨by omega,fun x hx=>?_⟩;rw[hfr,k2 x hx]; rfl
def BdI (A:List Nat) (m0 n m:Nat):Prop:=∀S,Kq A S->FB m0 S->S.length<=n+cnm m S
theorem afL (A:List Nat) (m:Nat):BdI A m 0 m:=fun S _ hI=>by
 unfold cnm;rw[List.filter_eq_self.2 fun x hx=>hI x hx];omega
theorem aih {A:List Nat} {m0 n m kv:Nat} (h:BdI A m0 n m) (hc:ClsI A m kv 0):BdI A m0 (n+1) kv:=fun S hK hI=>by
 have h1:=h S hK hI;rcases hc.2 S hK with k|⟨k,_⟩<;>omega
theorem ama {A:List Nat} {m0 n:Nat} (h:BdI A m0 n 0) {S:List Nat} (hK:Kq A S) (hI:FB m0 S):S.length<=n:=by
 have:=h S hK hI;have e:cnm 0 S=0:=by unfold cnm; rw[List.filter_eq_nil_iff.2 fun x _=>by simp]; rfl
 omega
end Go.BmP
