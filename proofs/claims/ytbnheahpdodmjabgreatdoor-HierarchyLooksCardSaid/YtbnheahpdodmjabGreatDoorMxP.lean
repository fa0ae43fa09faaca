/- The number of bits of a word, by the sums of its bytes. -/
import Derived.Test.YtbnheahpdodmjabGreatDoorGrfP
import Derived.Laws.BitsAllLaws
set_option linter.unusedSimpArgs false
set_option linter.unusedVariables false
open Int renaming natCast_add → AU
open List renaming range → eP
open Nat renaming and_le_left → fU, and_two_pow_sub_one_eq_mod → I7, lt_trans → WA, mod_lt → I6, testBit_and → bW, testBit_two_pow_mul_add → lY
namespace Go.BmP
open Go.Am Go.Bm
def Sz (u:Nat):Nat->Nat
 |0=>0
 |k+1=>256*Sz u k+u
theorem and8 (y b M u:Nat) (hb:b<256) (hu:u<256):(256*y+b) &&& (256*M+u)=256*(y &&& M)+(b &&& u):=by
 apply Nat.eq_of_testBit_eq;intro j;have h3:b &&& u<2 ^ 8:=Nat.lt_of_le_of_lt fU hb;have e1:=lY y (b:=b) (i:=8) hb j;have e2:=lY M (b:=u) (i:=8) hu j;have e3:=lY (y &&& M) (b:=b &&& u) (i:=8) h3 j;rw[show (2:Nat) ^ 8=256 from rfl] at e1 e2 e3;rw[bW,e1,e2,e3];split
 ·rw[bW]
 ·rw[bW]
def fA (k x:Nat):Nat:=(x / 2 &&& Sz 85 k)+(x &&& Sz 85 k)
def fB (k x:Nat):Nat:=(x / 4 &&& Sz 51 k)+(x &&& Sz 51 k)
def fC (k x:Nat):Nat:=(x / 16+x) &&& Sz 15 k
def bA (b:Nat):Nat:=(b / 2 &&& 85)+(b &&& 85)
def bB (b:Nat):Nat:=(b / 4 &&& 51)+(b &&& 51)
def NN (b:Nat):Nat:=(bB (bA b) / 16+bB (bA b))%16
theorem byA:∀b:Fin 256,∀r:Fin 2,(128*r.val+b.val / 2 &&& 85)=(b.val / 2 &&& 85)/\bA b.val<256:=by decide +kernel
theorem byB:∀b:Fin 256,∀r:Fin 4,(64*r.val+b.val / 4 &&& 51)=(b.val / 4 &&& 51)/\bB b.val<256:=by decide +kernel
theorem byC:∀b:Fin 256,bB (bA b.val)<=68/\bB (bA b.val)%16<=4/\NN b.val<=8/\NN b.val=((eP 8).filter fun j=>b.val.testBit j).length:=by decide +kernel
theorem ai4 (k y b:Nat) (hb:b<256):fA (k+1) (256*y+b)=256*fA k y+bA b:=by
 unfold fA bA;rw[show Sz 85 (k+1)=256*Sz 85 k+85 from rfl];have e:(256*y+b) / 2=256*(y / 2)+(128*(y%2)+b / 2):=by omega
 have h1:=(byA ⟨b,hb⟩ ⟨y%2,by omega⟩).1;simp only at h1;rw[e,and8 _ _ _ _ (by omega) (by omega),and8 _ _ _ _ hb (by omega),h1];omega
theorem ai3 (k y b:Nat) (hb:b<256):fB (k+1) (256*y+b)=256*fB k y+bB b:=by
 unfold fB bB;rw[show Sz 51 (k+1)=256*Sz 51 k+51 from rfl];have e:(256*y+b) / 4=256*(y / 4)+(64*(y%4)+b / 4):=by omega
 have h1:=(byB ⟨b,hb⟩ ⟨y%4,by omega⟩).1;simp only at h1;rw[e,and8 _ _ _ _ (by omega) (by omega),and8 _ _ _ _ hb (by omega),h1];omega
theorem ai2 (k y b:Nat) (hb:b<=68) (hy:y%16<=4):fC (k+1) (256*y+b)=256*fC k y+(b / 16+b)%16:=by
 unfold fC;rw[show Sz 15 (k+1)=256*Sz 15 k+15 from rfl];have e:(256*y+b) / 16+(256*y+b)=256*(y / 16+y)+(16*(y%16)+b / 16+b):=by omega
 have e2:(16*(y%16)+b / 16+b) &&& 15=(b / 16+b)%16:=by
  rw[show (15:Nat)=2 ^ 4-1 from rfl,I7];omega
 rw[e,and8 _ _ _ _ (by omega) (by omega),e2]
def pcW:Nat->Nat->Nat
 |0,_=>0
 |k+1,x=>256*pcW k (x / 256)+NN (x%256)
theorem fABC:∀k x:Nat,fB k (fA k x)%16<=4/\fC k (fB k (fA k x))=pcW k x/\fA k x<256 ^ k/\fB k (fA k x)<256 ^ k/\fB k (fA k x) / 16+fB k (fA k x)<256 ^ k
 |0,x=>by
   have h1:∀y,fA 0 y=0:=fun y=>by simp[fA,Sz]
   have h2:∀y,fB 0 y=0:=fun y=>by simp[fB,Sz]
   have h3:∀y,fC 0 y=0:=fun y=>by simp[fC,Sz]
   rw[h1,h2,h3];simp[pcW]
 |k+1,x=>by
   obtain⟨i1,i2,i3,i4,i5⟩:=fABC k (x / 256);have hb:x%256<256:=I6 _ (by omega);have ex:256*(x / 256)+x%256=x:=Nat.div_add_mod _ _;have a1:=ai4 k (x / 256) (x%256) hb;rw[ex] at a1;have hA:=(byA ⟨x%256,hb⟩ 0).2;obtain⟨c1,c2,c3,_⟩:=byC ⟨x%256,hb⟩;simp only at hA c1 c2 c3;have c4:bB (bA (x%256))%16<=4:=c2;have b1:=ai3 k (fA k (x / 256)) (bA (x%256)) hA;rw[<-a1] at b1;have d1:=ai2 k (fB k (fA k (x / 256))) (bB (bA (x%256))) c1 i1;rw[<-b1] at d1;have e1:256 ^ (k+1)=256*256 ^ k:=by rw[Nat.pow_succ,Nat.mul_comm]
   refine⟨by rw[b1,show (256:Nat)=16*16 from rfl,Nat.mul_assoc,Nat.mul_add_mod]; exact c4,by rw[d1,i2]; rfl,by rw[a1,e1]; omega,by rw[b1,e1]; omega,by rw[b1,e1]; omega⟩
theorem adB (k y b:Nat) (hb:b<256):((eP (8*(k+1))).filter fun j=>(256*y+b).testBit j).length=((eP 8).filter fun j=>b.testBit j).length+((eP (8*k)).filter fun j=>y.testBit j).length:=by
 rw[show 8*(k+1)=8+8*k by omega,List.range_add,List.filter_append,List.length_append];have e1:∀j,(256*y+b).testBit j=if j<8 then b.testBit j else y.testBit (j-8):=lY y (b:=b) (i:=8) hb;congr 1
 ·congr 1;refine List.filter_congr fun j hj=>?_;rw[e1,if_pos (List.mem_range.1 hj)]
 ·rw[List.filter_map,List.length_map];congr 1;refine List.filter_congr fun j _=>?_;simp only[Function.comp];rw[e1,if_neg (by omega),Nat.add_sub_cancel_left]
def vK (m:Nat):Nat:=((eP 64).filter fun j=>m.testBit j).length
theorem acY (m:Nat) (h:m<2 ^ 64):vK m=NN (m%256)+(NN (m / 256%256)+(NN (m / 256 / 256%256)+(NN (m / 256 / 256 / 256%256)+(NN (m / 256 / 256 / 256 / 256%256)+(NN (m / 256 / 256 / 256 / 256 / 256%256)+(NN (m / 256 / 256 / 256 / 256 / 256 / 256%256)+NN (m / 256 / 256 / 256 / 256 / 256 / 256 / 256%256))))))):=by
 have st:∀k x,((eP (8*(k+1))).filter fun j=>x.testBit j).length=NN (x%256)+((eP (8*k)).filter fun j=>(x / 256).testBit j).length:=by
  intro k x;have hb:x%256<256:=I6 _ (by omega);have:=adB k (x / 256) (x%256) hb;rw[Nat.div_add_mod] at this;rw[this,(byC ⟨x%256,hb⟩).2.2.2]
 unfold vK;rw[show (64:Nat)=8*(7+1) from rfl,st,show (8*7:Nat)=8*(6+1) from rfl,st,show (8*6:Nat)=8*(5+1) from rfl,st,show (8*5:Nat)=8*(4+1) from rfl,st,show (8*4:Nat)=8*(3+1) from rfl,st,show (8*3:Nat)=8*(2+1) from rfl,st,show (8*2:Nat)=8*(1+1) from rfl,st,show (8*1:Nat)=8*(0+1) from rfl,st];simp
theorem QN {n:Nat} (h:n<2 ^ 64):IntKind.u64.wrap (n:Int)=n:=by
 rw[IntKind.wrap_u64];omega
theorem Ve (a b:Nat) (ha:a<9223372036854775808) (hb:b<9223372036854775808):bits .and .i64 (a:Int) (b:Int)=((a &&& b:Nat):Int):=by
 have hx:a &&& b<2 ^ 63:=Nat.and_lt_two_pow _ (by omega);show IntKind.i64.wrap ((BitVec.ofInt 64 (a:Int) &&& BitVec.ofInt 64 (b:Int)).toNat:Int)=_;rw[BitVec.toNat_and,ofInt_u64 a (by omega),ofInt_u64 b (by omega),IntKind.wrap_i64];omega
theorem aca (m n:Nat) (hn:0<n):(m:Int).fdiv (n:Int)=((m / n:Nat):Int):=by
 rw[Int.fdiv_eq_ediv_of_nonneg _ (by omega)]; rfl
def pxA (x:Int):Int:=IntKind.u64.wrap (bits .and .u64 (x.fdiv 2) 6148914691236517205+bits .and .u64 x 6148914691236517205)
def pxB (x:Int):Int:=IntKind.u64.wrap (bits .and .u64 (x.fdiv 4) 3689348814741910323+bits .and .u64 x 3689348814741910323)
def pxC (x:Int):Int:=bits .and .u64 (IntKind.u64.wrap (x.fdiv 16+x)) 1085102592571150095
def pxD (n:Int) (x:Int):Int:=IntKind.u64.wrap (x+x.fdiv n)
def pxE (x:Int):Int:=bits .and .i64 (IntKind.i64.wrap (pxD 4294967296 (pxD 65536 (pxD 256 (pxC (pxB (pxA x))))))) 127
theorem alB (m:Nat) (h:m<2 ^ 64) (g:fA 8 m<2 ^ 64):pxA (m:Int)=(fA 8 m:Nat):=by
 have k1:Sz 85 8=6148914691236517205:=by decide
 unfold fA at g ⊢;rw[k1] at g ⊢;unfold pxA;have a1:=u64_and_nat (m / 2) 6148914691236517205 (by omega) (by decide);have a2:=u64_and_nat m 6148914691236517205 (by omega) (by decide);have d:=aca m 2 (by decide);generalize m / 2 &&& 6148914691236517205=p at *;generalize m &&& 6148914691236517205=q at *;have d':(m:Int).fdiv 2=((m / 2:Nat):Int):=d;have a1':bits .and .u64 ((m / 2:Nat):Int) 6148914691236517205=(p:Int):=a1;have a2':bits .and .u64 (m:Int) 6148914691236517205=(q:Int):=a2;rw[d',a1',a2',<-AU,QN g]
theorem alA (a:Nat) (h:a<2 ^ 64) (g:fB 8 a<2 ^ 64):pxB (a:Int)=(fB 8 a:Nat):=by
 have k2:Sz 51 8=3689348814741910323:=by decide
 unfold fB at g ⊢;rw[k2] at g ⊢;unfold pxB;have a1:=u64_and_nat (a / 4) 3689348814741910323 (by omega) (by decide);have a2:=u64_and_nat a 3689348814741910323 (by omega) (by decide);have d:=aca a 4 (by decide);generalize a / 4 &&& 3689348814741910323=p at *;generalize a &&& 3689348814741910323=q at *;have d':(a:Int).fdiv 4=((a / 4:Nat):Int):=d;have a1':bits .and .u64 ((a / 4:Nat):Int) 3689348814741910323=(p:Int):=a1;have a2':bits .and .u64 (a:Int) 3689348814741910323=(q:Int):=a2;rw[d',a1',a2',<-AU,QN g]
theorem alz (b:Nat) (g:b / 16+b<2 ^ 64):pxC (b:Int)=(fC 8 b:Nat):=by
 have k3:Sz 15 8=1085102592571150095:=by decide
 unfold fC;rw[k3];unfold pxC;have d:=aca b 16 (by decide);have d':(b:Int).fdiv 16=((b / 16:Nat):Int):=d;have a1:=u64_and_nat (b / 16+b) 1085102592571150095 (by omega) (by decide);generalize (b / 16+b) &&& 1085102592571150095=p at *;have a1':bits .and .u64 ((b / 16+b:Nat):Int) 1085102592571150095=(p:Int):=a1;rw[d',<-AU,QN g,a1']
theorem Xh (n x:Nat) (hn:0<n) (g:x+x / n<2 ^ 64):pxD (n:Int) (x:Int)=((x+x / n:Nat):Int):=by
 unfold pxD;rw[aca x n hn,<-AU,QN g]
theorem am4 {c0 c1 c2 c3 c4 c5 c6 c7 x y z:Nat} (h0:c0<=8) (h1:c1<=8) (h2:c2<=8) (h3:c3<=8) (h4:c4<=8) (h5:c5<=8) (h6:c6<=8) (h7:c7<=8)
  (ex:x=256*(256*(256*(256*(256*(256*(256*c7+c6)+c5)+c4)+c3)+c2)+c1)+c0) (ey:y=x+x / 256) (ez:z=y+y / 65536) :
  x+x / 256<2 ^ 62/\y+y / 65536<2 ^ 62/\z+z / 4294967296<2 ^ 62/\(z+z / 4294967296)%128=c0+(c1+(c2+(c3+(c4+(c5+(c6+c7)))))):=by
 have ey2:y=256*(256*(256*(256*(256*(256*(256*c7+(c6+c7))+(c5+c6))+(c4+c5))+(c3+c4))+(c2+c3))+(c1+c2))+(c0+c1):=by omega
 have ez2:z=256*(256*(256*(256*(256*(256*(256*c7+(c6+c7))+(c5+c6+c7))+(c4+c5+(c6+c7)))+(c3+c4+(c5+c6)))+(c2+c3+(c4+c5)))+(c1+c2+(c3+c4)))+(c0+c1+(c2+c3)):=by
  clear ey ex;omega
 refine⟨?_,?_,?_,?_⟩
 ·clear ez2 ez ey2 ey; omega
 ·clear ez2 ez ey ex; omega
 ·clear ez ey2 ey ex; omega
 ·clear ez ey2 ey ex;have eq:z / 4294967296=256*(256*(256*c7+(c6+c7))+(c5+c6+c7))+(c4+c5+(c6+c7)):=by omega
  rw[eq];obtain⟨A,eA⟩:∃A,z=256*A+(c0+c1+(c2+c3)):=⟨_,ez2⟩;rw[eA];clear eA ez2 eq;omega
theorem ahZ (m:Nat) (h:m<2 ^ 64):pxE (m:Int)=(vK m:Int):=by
 obtain⟨g1,g2,g3,g4,g5⟩:=fABC 8 m;have e256:(256:Nat) ^ 8=2 ^ 64:=by decide
 rw[e256] at g3 g4 g5;have b8:∀x,NN (x%256)<=8:=fun x=>(byC ⟨x%256,I6 _ (by decide)⟩).2.2.1;have ew:pcW 8 m=256*(256*(256*(256*(256*(256*(256*(256*0+NN (m / 256 / 256 / 256 / 256 / 256 / 256 / 256%256))+NN (m / 256 / 256 / 256 / 256 / 256 / 256%256))+NN (m / 256 / 256 / 256 / 256 / 256%256))+NN (m / 256 / 256 / 256 / 256%256))+NN (m / 256 / 256 / 256%256))+NN (m / 256 / 256%256))+NN (m / 256%256))+NN (m%256):=rfl;rw[Nat.mul_zero,Nat.zero_add] at ew;obtain⟨t1,t2,t3,t4⟩:=am4 (b8 m) (b8 (m / 256)) (b8 (m / 256 / 256)) (b8 (m / 256 / 256 / 256)) (b8 (m / 256 / 256 / 256 / 256)) (b8 (m / 256 / 256 / 256 / 256 / 256)) (b8 (m / 256 / 256 / 256 / 256 / 256 / 256)) (b8 (m / 256 / 256 / 256 / 256 / 256 / 256 / 256)) ew rfl rfl;have t64:(2:Nat) ^ 62<2 ^ 64:=by decide
 unfold pxE;rw[alB m h g3,alA _ g3 g4,alz _ g5,g2,acY m h,<-t4];generalize pcW 8 m=x at *;have s1:=Xh 256 x (by decide) (WA t1 t64);have s2:=Xh 65536 (x+x / 256) (by decide) (WA t2 t64);have s3:=Xh 4294967296 (x+x / 256+(x+x / 256) / 65536) (by decide) (WA t3 t64);have NK:pxD 256 (x:Int)=_:=s1;have s2':pxD 65536 ((x+x / 256:Nat):Int)=_:=s2;have s3':pxD 4294967296 ((x+x / 256+(x+x / 256) / 65536:Nat):Int)=_:=s3;rw[NK,s2',s3'];generalize x+x / 256+(x+x / 256) / 65536+(x+x / 256+(x+x / 256) / 65536) / 4294967296=f at *
 have w:IntKind.i64.wrap (f:Int)=(f:Int):=by
  rw[IntKind.wrap_i64]; omega
 have a1:=Ve f 127 (by omega) (by decide);have a1':bits .and .i64 (f:Int) 127=((f &&& 127:Nat):Int):=a1;rw[w,a1',show (127:Nat)=2 ^ 7-1 from rfl,I7]
/- Cliques within a set of bits: what the search for a largest one keeps. -/
def wo (m v:Nat):Nat:=m &&& (18446744073709551615-2 ^ v)
theorem mA {m v:Nat} (hm:m<18446744073709551616) (hv:v<64) (j:Nat):(wo m v).testBit j=(m.testBit j&&decide (j≠v)):=by
 unfold wo;rw[bW];have h2:(2:Nat) ^ v<2 ^ 64:=Nat.pow_lt_pow_right (by decide) hv;have e:18446744073709551615-2 ^ v=2 ^ 64-(2 ^ v+1):=by omega
 rw[e,Nat.testBit_two_pow_sub_succ h2,Nat.testBit_two_pow];by_cases hj:j<64
 ·by_cases k:v=j
  ·subst k; simp
  ·have k':¬j=v:=fun h=>k h.symm;simp[hj,k,k']
 ·have:m.testBit j=false:=Nat.testBit_lt_two_pow (Nat.lt_of_lt_of_le hm (by
   rw[show (18446744073709551616:Nat)=2 ^ 64 from rfl];exact Nat.pow_le_pow_right (by decide) (by omega)))
  simp[this]
theorem anj {m v:Nat} (hm:m<18446744073709551616) (hv:v<64) (hb:m.testBit v=true):wo m v<m:=by
 have hle:wo m v<=m:=fU;rcases Nat.lt_or_eq_of_le hle with h|h
 ·exact h
 ·exfalso;have:=mA hm hv v;rw[h,hb] at this;simp at this
end Go.BmP
