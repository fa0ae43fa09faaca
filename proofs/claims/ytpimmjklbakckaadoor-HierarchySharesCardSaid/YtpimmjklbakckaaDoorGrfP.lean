/- A plain sort of ints; the library's sort as a function that writes into the slice it is given. -/
import Derived.Lib.TrailingZeros
import Derived.Laws.BitsAllLaws
import Derived.Test.YtpimmjklbakckaaDoorRunX
open Bool renaming and_eq_true → ae, true_and → MU
open List renaming length_map → cS, map_cons → eJ, mem_cons → aK, pairwise_cons → bp
open Nat renaming testBit_two_pow_sub_one → sr, two_pow_pos → JA
open Option.some renaming injEq → af
namespace Go.Am
def j7:List AV->Option (List Int)
 |[]=>some []
 |.int .i64 n::r=>match j7 r with
   |some l=>some (n::l)
   |none=>none
 |_=>none
theorem wX:∀{cs:List AV} {zs:List Int},j7 cs=some zs->cs=zs.map (AV.int .i64)
 |[],zs,h=>by simp[j7] at h; subst h; rfl
 |c::r,zs,h=>by
   unfold j7 at h;split at h
   ·rename_i heq; cases heq
   ·rename_i n r' heq;cases heq;split at h
    ·rename_i l hl;simp at h;subst h;rw[wX hl];rfl
    ·cases h
   ·cases h
theorem rK (zs:List Int):j7 (zs.map (AV.int .i64))=some zs:=by
 induction zs with
 |nil=>rfl
 |cons z r ih=>simp[j7,ih]
end Go.Am
namespace Go.Bm
open Go.Am
def Ln (x:Int):List Int->List Int
 |[]=>[x]
 |y::r=>if x<=y then x::y::r else y::Ln x r
def iM:List Int->List Int
 |[]=>[]
 |x::r=>Ln x (iM r)
theorem A5 (x:Int):∀l,(Ln x l).Perm (x::l)
 |[]=>.refl _
 |y::r=>by
   unfold Ln;split
   ·exact .refl _
   ·exact ((A5 x r).cons y).trans (List.Perm.swap x y r)
theorem tI:∀l,(iM l).Perm l
 |[]=>.refl _
 |x::r=>(A5 x (iM r)).trans ((tI r).cons x)
theorem WH {x z:Int} {l:List Int}:z∈Ln x l ↔ z=x\/z∈l:=by
 rw[(A5 x l).mem_iff]; simp
theorem Ll (x:Int):∀{l:List Int},l.Pairwise (·<=·)->(Ln x l).Pairwise (·<=·)
 |[],_=>by simp[Ln]
 |y::r,h=>by
   obtain⟨h1,h2⟩:=bp.1 h;unfold Ln;split
   ·rename_i hle;refine bp.2 ⟨fun z hz=>?_,h⟩;rcases aK.1 hz with e|e
    ·omega
    ·have:=h1 z e; omega
   ·rename_i hle;refine bp.2 ⟨fun z hz=>?_,Ll x h2⟩;rcases WH.1 hz with e|e
    ·omega
    ·exact h1 z e
theorem A2:∀l,(iM l).Pairwise (·<=·)
 |[]=>.nil
 |x::r=>Ll x (A2 r)
theorem jR (l:List Int):(iM l).length=l.length:=(tI l).length_eq
theorem Ca:∀{l m:List Int},l.Perm m->l.Pairwise (·<=·)->m.Pairwise (·<=·)->l=m
 |[],m,h,_,_=>(List.Perm.nil_eq h)
 |x::r,[],h,_,_=>by have:=h.length_eq; simp at this
 |x::r,y::s,h,h1,h2=>by
   obtain⟨a1,a2⟩:=bp.1 h1;obtain⟨b1,b2⟩:=bp.1 h2;have hx:x∈y::s:=h.mem_iff.1 (by simp);have hy:y∈x::r:=h.mem_iff.2 (by simp)
   have e:x=y:=by
    rcases aK.1 hx with e|e
    ·exact e
    ·rcases aK.1 hy with e2|e2
     ·exact e2.symm
     ·have:=a1 y e2; have:=b1 x e; omega
   subst e;rw[Ca (List.Perm.cons_inv h) a2 b2]
def M6 (k:Nat) (xs es:List AV):Option (List AV × Option Nat):=
 match k,es with
 |1,[]=>if xs.length<=p7 then match j7 xs with
   |some zs=>some ((iM zs).map (AV.int .i64),none)
   |none=>none
   else none
 |_,_=>none
/- Plain facts on strictly rising lists of ints: what sort and compact give, and what a merge gives. -/
set_option linter.unusedVariables false
set_option linter.unusedSimpArgs false
def Up (l:List Int):Prop:=l.Pairwise (·<·)
def dd:List Int->List Int
 |[]=>[]
 |[x]=>[x]
 |x::y::r=>if x=y then dd (y::r) else x::dd (y::r)
theorem Oi:∀(l:List Int) (z:Int),z∈dd l ↔ z∈l
 |[],z=>by simp[dd]
 |[x],z=>by simp[dd]
 |x::y::r,z=>by
   have ih:=Oi (y::r) z;unfold dd;split
   ·rename_i e; subst e; rw[ih]; simp
   ·rw[aK,ih,aK (a:=z) (b:=x)]
theorem Oj:∀l:List Int,(dd l).length<=l.length
 |[]=>by simp[dd]
 |[x]=>by simp[dd]
 |x::y::r=>by
   have ih:=Oj (y::r);unfold dd;split
   ·simp at *; omega
   ·simp at *; omega
theorem ab1:∀{l:List Int},l.Pairwise (·<=·)->Up (dd l)
 |[],_=>by simp[dd,Up]
 |[x],_=>by simp[dd,Up]
 |x::y::r,h=>by
   obtain⟨h1,h2⟩:=bp.1 h;have ih:=ab1 h2;unfold dd;split
   ·exact ih
   ·rename_i tn;refine bp.2 ⟨fun z hz=>?_,ih⟩;have hz:=(Oi _ _).1 hz;have a:=h1 y (by simp);have b:=(bp.1 h2).1;rcases aK.1 hz with e|e
    ·subst e; omega
    ·have:=b z e; omega
def dt (zs:List Int):List Int:=dd (iM zs)
theorem kT (zs:List Int):Up (dt zs)/\∀ x,x∈dt zs ↔ x∈zs:=
 ⟨ab1 (A2 zs),fun x=>(Oi _ _).trans (tI zs).mem_iff⟩
theorem nf (zs:List Int):(dt zs).length<=zs.length:=by
 have:=Oj (iM zs);rw[jR] at this;exact this
theorem CU {a b:List Int} (ha:Up a) (hb:Up b) (h:∀x,x∈a ↔ x∈b):a=b:=by
 induction a generalizing b with
 |nil=>
   cases b with
   |nil=>rfl
   |cons y s=>exact absurd ((h y).mpr (by simp)) (by simp)
 |cons x r ih=>
   cases b with
   |nil=>exact absurd ((h x).mp (by simp)) (by simp)
   |cons y s=>
     unfold Up at ha hb;rw[bp] at ha hb
     have hxy:x=y:=by
      have h1:=(h x).mp (by simp);have h2:=(h y).mpr (by simp);simp only[aK] at h1 h2;rcases h1 with e|e
      ·exact e
      ·rcases h2 with e2|e2
       ·exact e2.symm
       ·have:=ha.1 _ e2;have:=hb.1 _ e;omega
     subst hxy;congr 1;refine ih ha.2 hb.2 fun z=>?_;have hz:=h z;simp only[aK] at hz;constructor
     ·intro hr;rcases hz.mp (.inr hr) with e|e
      ·have:=ha.1 _ hr; omega
      ·exact e
     ·intro hr;rcases hz.mpr (.inr hr) with e|e
      ·have:=hb.1 _ hr; omega
      ·exact e
def qd (c:Bool) (x:Int) (m:List Int):List Int:=if c=true then x::m else m
def uT (keep:Bool->Bool->Bool):List Int->List Int->List Int
 |[],[]=>[]
 |x::r,[]=>qd (keep true false) x (uT keep r [])
 |[],y::s=>qd (keep false true) y (uT keep [] s)
 |x::r,y::s=>
   if x<y then qd (keep true false) x (uT keep r (y::s))
   else if y<x then qd (keep false true) y (uT keep (x::r) s)
   else qd (keep true true) x (uT keep r s)
termination_by a b=>a.length+b.length
theorem vE (keep:Bool->Bool->Bool) (z:Int) (m a' b' a b:List Int) (pa pb:Bool) (h1:Up m) (h2:∀x,x∈m ↔ ((x∈a'\/x∈b')/\keep (decide (x∈a')) (decide (x∈b'))=true)) (bY:∀x,x∈a'\/x∈b'->z<x)
  (hp:pa=true\/pb=true) (ha:∀x,x∈a ↔ ((x=z/\pa=true)\/x∈a')) (hb:∀x,x∈b ↔ ((x=z/\pb=true)\/x∈b')) {o:List Int} (ho:o=if keep pa pb then z::m else m) :
  Up o/\∀ x,x∈o ↔ ((x∈a\/x∈b)/\keep (decide (x∈a)) (decide (x∈b))=true):=by
 subst ho;have hza:z∉a':=fun h=>Int.lt_irrefl _ (bY z (.inl h));have hzb:z∉b':=fun h=>Int.lt_irrefl _ (bY z (.inr h));have hzm:z∉m:=fun h=>((h2 z).mp h).1.elim hza hzb;refine⟨?_,fun x=>?_⟩
 ·split
  ·unfold Up;rw[bp];exact⟨fun y hy=>bY y ((h2 y).mp hy).1,h1⟩
  ·exact h1
 ·by_cases hx:x=z
  ·subst hx;have da:decide (x∈a)=pa:=by cases pa<;>simp[ha,hza]
   have db:decide (x∈b)=pb:=by cases pb<;>simp[hb,hzb]
   have hor:x∈a\/x∈b:=by
    rcases hp with h|h
    ·left; simp[ha,h]
    ·right; simp[hb,h]
   rw[da,db];simp only[hor,true_and];split
   ·rename_i hk;simp[hk]
   ·rename_i hk;simp[hk,hzm]
  ·have da:x∈a ↔ x∈a':=by simp[ha,hx]
   have db:x∈b ↔ x∈b':=by simp[hb,hx]
   simp only[da,db];rw[<-h2];split
   ·simp[hx]
   ·rfl
theorem KG (keep:Bool->Bool->Bool) (a b:List Int) (ha:Up a) (hb:Up b):Up (uT keep a b)/\∀ x,x∈uT keep a b ↔ ((x∈a\/x∈b)/\keep (decide (x∈a)) (decide (x∈b))=true):=by
 induction a,b using uT.induct with
 |case1=>simp[uT,Up]
 |case2 x r ih=>
   unfold Up at ha;rw[bp] at ha;obtain⟨h1,h2⟩:=ih ha.2 hb;exact vE keep x (uT keep r []) r [] (x::r) [] true false h1 h2 (fun y hy=>hy.elim (ha.1 y) (fun h=>by simp at h)) (.inl rfl) (fun y=>by simp) (fun y=>by simp) (by rw[uT]; rfl)
 |case3 y s ih=>
   unfold Up at hb;rw[bp] at hb;obtain⟨h1,h2⟩:=ih ha hb.2;exact vE keep y (uT keep [] s) [] s [] (y::s) false true h1 h2 (fun x hx=>hx.elim (fun h=>by simp at h) (hb.1 x)) (.inr rfl) (fun y=>by simp) (fun y=>by simp) (by rw[uT]; rfl)
 |case4 x r y s bY ih=>
   have Uw:=ha;have iU:=hb;unfold Up at ha hb;rw[bp] at ha hb;obtain⟨h1,h2⟩:=ih ha.2 iU
   exact vE keep x (uT keep r (y::s)) r (y::s) (x::r) (y::s) true false h1 h2 (fun z hz=>by
    rcases hz with hz|hz
    ·exact ha.1 z hz
    ·rcases aK.mp hz with e|e
     ·omega
     ·have:=hb.1 z e; omega) (.inl rfl) (fun z=>by simp) (fun z=>by simp) (by rw[uT,if_pos bY]; rfl)
 |case5 x r y s hn bY ih=>
   have Uw:=ha;have iU:=hb;unfold Up at ha hb;rw[bp] at ha hb;obtain⟨h1,h2⟩:=ih Uw hb.2
   exact vE keep y (uT keep (x::r) s) (x::r) s (x::r) (y::s) false true h1 h2 (fun z hz=>by
    rcases hz with hz|hz
    ·rcases aK.mp hz with e|e
     ·omega
     ·have:=ha.1 z e; omega
    ·exact hb.1 z hz) (.inr rfl) (fun z=>by simp) (fun z=>by simp) (by rw[uT,if_neg hn,if_pos bY]; rfl)
 |case6 x r y s hn Yh ih=>
   obtain rfl:x=y:=by omega
   unfold Up at ha hb;rw[bp] at ha hb;obtain⟨h1,h2⟩:=ih ha.2 hb.2
   exact vE keep x (uT keep r s) r s (x::r) (x::s) true true h1 h2 (fun z hz=>by
    rcases hz with hz|hz
    ·exact ha.1 z hz
    ·exact hb.1 z hz) (.inl rfl) (fun z=>by simp) (fun z=>by simp) (by rw[uT,if_neg hn,if_neg Yh]; rfl)
def uni (a b:List Int):List Int:=uT (fun _ _=>true) (dt a) (dt b)
def meet (a b:List Int):List Int:=uT (fun p r=>p&&r) (dt a) (dt b)
def minus (a b:List Int):List Int:=uT (fun _ r=>!r) (dt a) (dt b)
theorem nA (a b:List Int):Up (meet a b)/\∀ x,x∈meet a b ↔ x∈a/\x∈b:=by
 obtain⟨a1,a2⟩:=kT a;obtain⟨b1,b2⟩:=kT b;obtain⟨h1,h2⟩:=KG (fun p r=>p&&r) _ _ a1 b1
 exact ⟨h1, fun x => by rw [meet, h2]; simp only [a2, b2, ae, decide_eq_true_eq]; constructor
                        ·exact fun h=>h.2
                        ·exact fun h=>⟨.inl h.1,h⟩⟩
theorem NH (a b:List Int):Up (minus a b)/\∀ x,x∈minus a b ↔ x∈a/\x∉b:=by
 obtain⟨a1,a2⟩:=kT a;obtain⟨b1,b2⟩:=kT b;obtain⟨h1,h2⟩:=KG (fun _ r=>!r) _ _ a1 b1
 exact⟨h1,fun x=>by
  rw[minus,h2];simp only[a2,b2];by_cases hb:x∈b<;>simp[hb]⟩
def TQ:List AV->Heap->Option (AV × Heap)
 |[.list 1 []],[]=>some (.list 1 [],[])
 |_,_=>none
def Ol (k:Nat) (xs es:List AV):Option (List AV × Option Nat):=
 match k,es with
 |1,[]=>if xs.length<=p7 then match j7 xs with
   |some zs=>some ((dd zs++List.replicate (zs.length-(dd zs).length) 0).map (AV.int .i64),some (dd zs).length)
   |none=>none
   else none
 |_,_=>none
/- What functions on lists of ints answer, in plain terms. -/
def iH:List Int->List Int->Int
 |[],[]=>0
 |[],_::_=>-1
 |_::_,[]=>1
 |x::r,y::s=>if y<x then 1 else if x<y then -1 else iH r s
theorem Hs:∀{a b:List Int},iH a b=0 ↔ a=b
 |[],[]=>by simp[iH]
 |[],_::_=>by simp[iH]
 |_::_,[]=>by simp[iH]
 |x::r,y::s=>by
   have ih:=Hs (a:=r) (b:=s);unfold iH;split
   ·rename_i h; simp; intro e; omega
   ·split
    ·rename_i h; simp; intro e; omega
    ·rw[ih]; simp; intro _; omega
def aeo (n:Int):Int->List Int->Bool
 |_,[]=>true
 |p,x::r=>decide (0<=x)&&(decide (x<n)&&(decide (p<x)&&aeo n x r))
def prev (l:List Int) (i:Nat):Int:=if i=0 then -1 else l.getD (i-1) 0
def qC (x:Int):List Int->List Int
 |[]=>[x]
 |y::r=>if y<x then y::qC x r else if y=x then y::r else x::y::r
theorem Km (x:Int):∀l,(qC x l).length<=l.length+1
 |[]=>by simp[qC]
 |y::r=>by
   have:=Km x r;unfold qC;split
   ·simp; omega
   ·split<;>simp
theorem DE (x z:Int):∀l,z∈qC x l ↔ z=x\/z∈l
 |[]=>by simp[qC]
 |y::r=>by
   have ih:=DE x z r;unfold qC;split
   ·simp only[aK,ih]; constructor<;>(intro h; rcases h with h|h|h<;>simp[h])
   ·split
    ·rename_i e; subst e; simp
    ·simp
theorem QF (x:Int):∀{l},Up l->Up (qC x l)
 |[],_=>by simp[qC,Up]
 |y::r,h=>by
   obtain⟨h1,h2⟩:=bp.1 h;unfold qC;split
   ·rename_i bY;refine bp.2 ⟨fun z hz=>?_,QF x h2⟩;rcases (DE x z r).1 hz with e|e
    ·omega
    ·exact h1 z e
   ·split
    ·exact h
    ·refine bp.2 ⟨fun z hz=>?_,h⟩;rcases aK.1 hz with e|e
     ·omega
     ·have:=h1 z e; omega
def pos (x:Int):List Int->Nat
 |[]=>0
 |y::r=>if y<x then pos x r+1 else 0
theorem Vu (x:Int):∀l,pos x l<=l.length
 |[]=>by simp[pos]
 |y::r=>by have:=Vu x r; unfold pos; split<;>simp<;>omega
theorem Kl (x:Int):∀l,qC x l=if l[pos x l]?=some x then l else l.take (pos x l)++x::l.drop (pos x l)
 |[]=>by simp[qC,pos]
 |y::r=>by
   have ih:=Kl x r;unfold qC pos;split
   ·rw[ih];simp only[List.getElem?_cons_succ,List.take_succ_cons,List.drop_succ_cons];split<;>simp
   ·simp only[List.getElem?_cons_zero,af,List.take_zero,List.drop_zero,List.nil_append]
def ofL (l:List Int):List Int:=l.foldl (fun o x=>qC x o) []
theorem RQ:∀(l o:List Int),Up o->Up (l.foldl (fun o x=>qC x o) o)/\∀ z,z∈l.foldl (fun o x=>qC x o) o ↔ z∈o\/z∈l
 |[],o,h=>⟨h,fun z=>by simp⟩
 |x::r,o,h=>by
   obtain⟨h1,h2⟩:=RQ r (qC x o) (QF x h);refine⟨h1,fun z=>?_⟩;rw[List.foldl_cons,h2,DE];simp only[aK];constructor
   ·rintro ((h|h)|h)<;>simp[h]
   ·rintro (h|h|h)<;>simp[h]
theorem adn (l:List Int):ofL l=dt l:=by
 obtain⟨h1,h2⟩:=RQ l [] (by simp[Up]);obtain⟨h3,h4⟩:=kT l;exact CU h1 h3 fun x=>by rw[h4]; exact (h2 x).trans (by simp)
/- Sets of nodes as bits: plain facts. -/
def tz (x:Nat):Nat:=Lib.ctz 64 x
theorem Ct {x:Nat} (h0:x≠0) (h:x<18446744073709551616):∃m,x=2 ^ tz x*(2*m+1)/\tz x<64:=by
 have:=Lib.ctzFrom_spec 64 x (by omega) h;unfold tz Lib.ctz;rw[if_neg h0];exact this
theorem Io (k m j:Nat):(2 ^ k*(2*m+1)).testBit j=if j<k then false else if j=k then true else m.testBit (j-k-1):=by
 rw[Nat.mul_comm,Nat.testBit_mul_two_pow];by_cases h:j<k
 ·simp[h,show ¬k<=j by omega]
 ·rw[if_neg h];have hk:k<=j:=by omega
  by_cases e:j=k
  ·subst e; simp[Nat.testBit_zero]
  ·rw[if_neg e];obtain⟨d,hd⟩:∃d,j-k=d+1:=⟨j-k-1,by omega⟩;rw[hd,Nat.testBit_succ,show (2*m+1) / 2=m by omega];simp[hk]
theorem Vs (k m j:Nat):(2 ^ k*(2*m+1)-1).testBit j=if j<k then true else if j=k then false else m.testBit (j-k-1):=by
 have e:2 ^ k*(2*m+1)-1=2 ^ (k+1)*m+(2 ^ k-1):=by
  have:0<2 ^ k:=JA k;rw[Nat.pow_succ,Nat.mul_add,Nat.mul_one,<-Nat.mul_assoc];omega
 have hp:0<2 ^ k:=JA k;rw[e,Nat.testBit_two_pow_mul_add _ (by rw[Nat.pow_succ]; omega)];by_cases h:j<k
 ·rw[if_pos (by omega),if_pos h,sr]; simp[h]
 ·rw[if_neg h];by_cases e2:j=k
  ·subst e2;rw[if_pos (by omega),if_pos rfl,sr]; simp
  ·rw[if_neg (by omega),if_neg e2,show j-(k+1)=j-k-1 by omega]
theorem Ab {x:Nat} (h0:x≠0) (h:x<18446744073709551616) (j:Nat):(x &&& (x-1)).testBit j=(x.testBit j&&decide (j≠tz x)):=by
 obtain⟨m,hm,_⟩:=Ct h0 h;rw[Nat.testBit_and]
 conv=>lhs; rw[hm]
 conv=>rhs; rw[hm]
 rw[Io,Vs];have hz:tz (2 ^ tz x*(2*m+1))=tz x:=by rw[<-hm]
 rw[hz];by_cases h:j<tz x
 ·simp[h]
 ·by_cases e:j=tz x
  ·simp[e]
  ·simp[h,e]
theorem xW {x:Nat} (h0:x≠0) (h:x<18446744073709551616):x.testBit (tz x)=true/\∀ j,j<tz x->x.testBit j=false:=by
 obtain⟨m,hm,_⟩:=Ct h0 h;constructor
 ·conv=>lhs; arg 1; rw[hm]
  rw[Io]; simp
 ·intro j hj
  conv=>lhs; arg 1; rw[hm]
  rw[Io]; simp[hj]
theorem RW {x:Nat} (h0:x≠0):x &&& (x-1)<x:=by
 have:=Nat.and_le_right (n:=x) (m:=x-1);omega
def cI (m:Nat):List Int:=((List.range 64).filter fun j=>m.testBit j).map fun j=>((j:Nat):Int)
theorem jJ {m:Nat} {x:Int}:x∈cI m ↔ ∃j:Nat,x=j/\j<64/\m.testBit j=true:=by
 unfold cI;simp only[List.mem_map,List.mem_filter,List.mem_range];constructor
 ·rintro⟨j,⟨h1,h2⟩,rfl⟩; exact⟨j,rfl,h1,h2⟩
 ·rintro⟨j,rfl,h1,h2⟩; exact⟨j,⟨h1,h2⟩,rfl⟩
theorem rQ (m:Nat):Up (cI m):=by
 unfold cI Up;refine List.Pairwise.map _ (fun a b h=>by omega) (List.Pairwise.filter _ List.pairwise_lt_range)
theorem Ui:cI 0=[]:=by simp[cI]
theorem v7 (m:Nat):(cI m).length<=64:=by
 unfold cI;rw[cS];exact Nat.le_trans (List.length_filter_le _ _) (by simp)
theorem HF {m:Nat} (h0:m≠0) (h:m<18446744073709551616):cI m=(tz m:Int)::cI (m &&& (m-1)):=by
 obtain⟨b1,b2⟩:=xW h0 h;obtain⟨_,_,bY⟩:=Ct h0 h;refine CU (rQ m) (bp.2 ⟨fun x hx=>?_,rQ _⟩) fun x=>?_
 ·obtain⟨j,rfl,h1,h2⟩:=jJ.1 hx;rw[Ab h0 h,ae,decide_eq_true_eq] at h2;have:¬j<tz m:=fun k=>by rw[b2 j k] at h2; simp at h2
  omega
 ·rw[aK,jJ,jJ];constructor
  ·rintro⟨j,rfl,h1,h2⟩;by_cases e:j=tz m
   ·left; rw[e]
   ·right; exact⟨j,rfl,h1,by rw[Ab h0 h,h2]; simp[e]⟩
  ·rintro (rfl|⟨j,rfl,h1,h2⟩)
   ·exact⟨tz m,rfl,bY,b1⟩
   ·rw[Ab h0 h,ae] at h2;exact⟨j,rfl,h1,h2.1⟩
def mskF (l:List Int) (m:Nat):Nat:=l.foldl (fun m v=>m ||| 2 ^ v.toNat) m
def msk (l:List Int):Nat:=mskF l 0
/-! Operations of uint64 -/
theorem aaY {n:Nat} (h:n<18446744073709551616):IntKind.u64.wrap (n:Int)=(n:Int):=by rw[IntKind.wrap_u64]; omega
theorem shlU {v:Int} (h0:0<=v) (h1:v<64):IntKind.u64.wrap (1*2 ^ (min v.toNat 64))=((2 ^ v.toNat:Nat):Int):=by
 have e:min v.toNat 64=v.toNat:=by omega
 have h2:2 ^ v.toNat<2 ^ 64:=Nat.pow_lt_pow_right (by decide) (by omega);rw[e,Int.one_mul,show ((2:Int) ^ v.toNat)=((2 ^ v.toNat:Nat):Int) by simp,aaY h2]
theorem decU {m:Nat} (h0:m≠0) (h:m<18446744073709551616):IntKind.u64.wrap ((m:Int)-1)=((m-1:Nat):Int):=by
 rw[show (m:Int)-1=((m-1:Nat):Int) by omega,aaY (by omega)]
/- Edges and graphs: plain facts. -/
abbrev Ed:=Int × Int
def fh (e:Ed):AV:=.agg [.int .i64 e.1,.int .i64 e.2]
def iQ (l:List Ed):List AV:=l.map fh
theorem bf (l:List Ed):(iQ l).length=l.length:=cS _
theorem bW (l:List Ed) (i:Nat):(iQ l)[i]?=(l[i]?).map fh:=List.getElem?_map
theorem dF (l:List Ed) (i:Nat) (h:i<(iQ l).length):(iQ l)[i]=fh (l[i]'(by simpa[iQ] using h)):=by simp[iQ]
theorem TW (l:List Ed) (u v:Int):iQ l++[.agg [.int .i64 u,.int .i64 v]]=iQ (l++[(u,v)]):=by simp[iQ,fh]
theorem ER (l:List Ed) (n:Nat):(iQ l).take n=iQ (l.take n):=by simp[iQ]
theorem aY (l:List Ed):bm (az (iQ l))=true:=by
 induction l with
 |nil=>rfl
 |cons x r ih=>simp only[iQ,eJ,az,fh,AV.cells,List.cons_append,List.nil_append,bm,AV.leaf,MU] at ih ⊢; exact ih
theorem bj (l:List Ed):gn (iQ l)=true:=by
 induction l with
 |nil=>rfl
 |cons x r ih=>simp only[iQ,eJ,fh,gn,clean,MU,Bool.and_true] at ih ⊢; exact ih
theorem aX (l:List Int):gn (ints l)=true:=by
 induction l with
 |nil=>rfl
 |cons x r ih=>simp only[ints,eJ,gn,clean] at ih ⊢; rw[ih]; rfl
def KS (a b:Ed):Prop:=a.1<b.1\/a.1=b.1/\a.2<b.2
instance (a b:Ed):Decidable (KS a b):=by unfold KS; infer_instance
theorem Tw {a b c:Ed} (h:KS a b) (k:KS b c):KS a c:=by unfold KS at *; omega
def UpE (l:List Ed):Prop:=l.Pairwise KS
def putE (x:Ed):List Ed->List Ed
 |[]=>[x]
 |y::r=>if KS y x then y::putE x r else if y=x then y::r else x::y::r
def posE (x:Ed):List Ed->Nat
 |[]=>0
 |y::r=>if KS y x then posE x r+1 else 0
def nrmE (u v:Int):Ed:=(if v<u then v else u,if u<v then v else u)
def ofE (l:List Ed) (o:List Ed):List Ed:=l.foldl (fun o e=>putE (nrmE e.1 e.2) o) o
def Mn:Option Ed->Ed->Prop
 |none,_=>False
 |some q,e=>¬KS q e
instance:∀p e,Decidable (Mn p e)
 |none,_=>instDecidableFalse
 |some q,e=>inferInstanceAs (Decidable (¬KS q e))
def jY (n:Int):Option Ed->List Ed->Int
 |_,[]=>0
 |p,e::r=>if e.1<0\/e.2<=e.1\/n<=e.2 then 6 else if Mn p e then 5 else jY n (some e) r
def chkG (n:Int) (l:List Ed):Int:=if n<0\/64<n then 1 else jY n none l
theorem E3 (n:Int):∀{l:List Ed} {p:Option Ed},jY n p l=0 ↔ UpE l/\(∀e∈l,0<=e.1/\e.1<e.2/\e.2<n)/\∀ q,p=some q->∀e∈l,KS q e
 |[],p=>by simp[jY,UpE]
 |e::r,p=>by
   have ih:=E3 n (l:=r) (p:=some e);unfold jY;by_cases h1:e.1<0\/e.2<=e.1\/n<=e.2
   ·rw[if_pos h1];constructor
    ·intro h; cases h
    ·rintro⟨_,h,_⟩; have:=h e (by simp); omega
   ·rw[if_neg h1];cases p with
    |none=>
      rw[if_neg (show ¬Mn none e from fun h=>h),ih];simp only[UpE,bp,aK,forall_eq_or_imp];constructor
      ·rintro⟨a,b,c⟩; exact⟨⟨fun z hz=>c e rfl z hz,a⟩,⟨by omega,b⟩,fun q hq=>by cases hq⟩
      ·rintro⟨⟨a,b⟩,⟨c,d⟩,f⟩; exact⟨b,d,fun q hq=>by cases hq; exact a⟩
    |some q=>
      by_cases h2:KS q e
      ·rw[if_neg (show ¬Mn (some q) e from fun h=>h h2),ih];simp only[UpE,bp,aK,forall_eq_or_imp];constructor
       ·rintro⟨a,b,c⟩;exact⟨⟨fun z hz=>c e rfl z hz,a⟩,⟨by omega,b⟩,fun q' hq=>by cases hq; exact⟨h2,fun z hz=>Tw h2 (c e rfl z hz)⟩⟩
       ·rintro⟨⟨a,b⟩,⟨c,d⟩,f⟩; exact⟨b,d,fun q hq=>by cases hq; exact a⟩
      ·rw[if_pos (show Mn (some q) e from h2)];constructor
       ·intro h; cases h
       ·rintro⟨_,_,h⟩; exact absurd (h q rfl e (by simp)) h2
def Jz (n:Int) (l:List Ed):Prop:=(0<=n/\n<=64)/\UpE l/\∀ e∈l,0<=e.1/\e.1<e.2/\e.2<n
theorem T8 {n:Int} {l:List Ed}:chkG n l=0 ↔ Jz n l:=by
 unfold chkG Jz;by_cases h:n<0\/64<n
 ·rw[if_pos h]; constructor
  ·intro h; cases h
  ·rintro⟨h2,_⟩; omega
 ·rw[if_neg h,E3];constructor
  ·rintro⟨a,b,_⟩; exact⟨by omega,a,b⟩
  ·rintro⟨_,a,b⟩; exact⟨a,b,fun q hq=>by cases hq⟩
end Go.Bm
