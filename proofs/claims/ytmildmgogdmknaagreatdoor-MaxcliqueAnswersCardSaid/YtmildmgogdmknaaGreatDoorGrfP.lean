/- A plain sort of ints; the library's sort as a function that writes into the slice it is given. -/
import Derived.Lib.TrailingZeros
import Derived.Laws.BitsAllLaws
import Derived.Test.YtmildmgogdmknaaGreatDoorRunX
open Bool renaming and_eq_true → ae, eq_iff_iff → m8, true_and → dI
open List renaming foldl_cons → fN, length_map → jQ, map_cons → kA, mem_cons → aK, nil_append → rP, pairwise_cons → aX
open Nat renaming pow_lt_pow_right → nD, testBit_two_pow_sub_one → eK, two_pow_pos → Sp
open Option.some renaming injEq → ai
namespace Go.Am
def j8:List AV->Option (List Int)
 |[]=>some []
 |.int .i64 n::r=>match j8 r with
   |some l=>some (n::l)
   |none=>none
 |_=>none
theorem vO:∀{cs:List AV} {zs:List Int},j8 cs=some zs->cs=zs.map (AV.int .i64)
 |[],zs,h=>by simp[j8] at h; subst h; rfl
 |c::r,zs,h=>by
   unfold j8 at h;split at h
   ·rename_i heq; cases heq
   ·rename_i n r' heq;cases heq;split at h
    ·rename_i l hl;simp at h;subst h;rw[vO hl];rfl
    ·cases h
   ·cases h
theorem nt (zs:List Int):j8 (zs.map (AV.int .i64))=some zs:=by
 induction zs with
 |nil=>rfl
 |cons z r ih=>simp[j8,ih]
end Go.Am
namespace Go.Bm
open Go.Am
def UH (x:Int):List Int->List Int
 |[]=>[x]
 |y::r=>if x<=y then x::y::r else y::UH x r
def iP:List Int->List Int
 |[]=>[]
 |x::r=>UH x (iP r)
theorem Gn (x:Int):∀l,(UH x l).Perm (x::l)
 |[]=>.refl _
 |y::r=>by
   unfold UH;split
   ·exact .refl _
   ·exact ((Gn x r).cons y).trans (List.Perm.swap x y r)
theorem kP:∀l,(iP l).Perm l
 |[]=>.refl _
 |x::r=>(Gn x (iP r)).trans ((kP r).cons x)
theorem aeX {x z:Int} {l:List Int}:z∈UH x l ↔ z=x\/z∈l:=by
 rw[(Gn x l).mem_iff]; simp
theorem UG (x:Int):∀{l:List Int},l.Pairwise (·<=·)->(UH x l).Pairwise (·<=·)
 |[],_=>by simp[UH]
 |y::r,h=>by
   obtain⟨h1,h2⟩:=aX.1 h;unfold UH;split
   ·rename_i hle;refine aX.2 ⟨fun z hz=>?_,h⟩;rcases aK.1 hz with e|e
    ·omega
    ·have:=h1 z e; omega
   ·rename_i hle;refine aX.2 ⟨fun z hz=>?_,UG x h2⟩;rcases aeX.1 hz with e|e
    ·omega
    ·exact h1 z e
theorem vM:∀l,(iP l).Pairwise (·<=·)
 |[]=>.nil
 |x::r=>UG x (vM r)
theorem k9 (l:List Int):(iP l).length=l.length:=(kP l).length_eq
theorem H8:∀{l m:List Int},l.Perm m->l.Pairwise (·<=·)->m.Pairwise (·<=·)->l=m
 |[],m,h,_,_=>(List.Perm.nil_eq h)
 |x::r,[],h,_,_=>by have:=h.length_eq; simp at this
 |x::r,y::s,h,h1,h2=>by
   obtain⟨a1,a2⟩:=aX.1 h1;obtain⟨b1,b2⟩:=aX.1 h2;have hx:x∈y::s:=h.mem_iff.1 (by simp);have hy:y∈x::r:=h.mem_iff.2 (by simp)
   have e:x=y:=by
    rcases aK.1 hx with e|e
    ·exact e
    ·rcases aK.1 hy with e2|e2
     ·exact e2.symm
     ·have:=a1 y e2; have:=b1 x e; omega
   subst e;rw[H8 (List.Perm.cons_inv h) a2 b2]
def Wk (k:Nat) (xs es:List AV):Option (List AV × Option Nat):=
 match k,es with
 |1,[]=>if xs.length<=jx then match j8 xs with
   |some zs=>some ((iP zs).map (AV.int .i64),none)
   |none=>none
   else none
 |_,_=>none
/- Plain facts on strictly rising lists of ints: what sort and compact give, and what a merge gives. -/
set_option linter.unusedVariables false
set_option linter.unusedSimpArgs false
def Up (l:List Int):Prop:=l.Pairwise (·<·)
def dd:List Int->List Int
 |[]=>[]
 |[x]=>[x]
 |x::y::r=>if x=y then dd (y::r) else x::dd (y::r)
theorem Xx:∀(l:List Int) (z:Int),z∈dd l ↔ z∈l
 |[],z=>by simp[dd]
 |[x],z=>by simp[dd]
 |x::y::r,z=>by
   have ih:=Xx (y::r) z;unfold dd;split
   ·rename_i e; subst e; rw[ih]; simp
   ·rw[aK,ih,aK (a:=z) (b:=x)]
theorem Xy:∀l:List Int,(dd l).length<=l.length
 |[]=>by simp[dd]
 |[x]=>by simp[dd]
 |x::y::r=>by
   have ih:=Xy (y::r);unfold dd;split
   ·simp at *; omega
   ·simp at *; omega
theorem ajn:∀{l:List Int},l.Pairwise (·<=·)->Up (dd l)
 |[],_=>by simp[dd,Up]
 |[x],_=>by simp[dd,Up]
 |x::y::r,h=>by
   obtain⟨h1,h2⟩:=aX.1 h;have ih:=ajn h2;unfold dd;split
   ·exact ih
   ·rename_i kj;refine aX.2 ⟨fun z hz=>?_,ih⟩;have hz:=(Xx _ _).1 hz;have a:=h1 y (by simp);have b:=(aX.1 h2).1;rcases aK.1 hz with e|e
    ·subst e; omega
    ·have:=b z e; omega
def cV (zs:List Int):List Int:=dd (iP zs)
theorem eY (zs:List Int):Up (cV zs)/\∀ x,x∈cV zs ↔ x∈zs:=
 ⟨ajn (vM zs),fun x=>(Xx _ _).trans (kP zs).mem_iff⟩
theorem iI (zs:List Int):(cV zs).length<=zs.length:=by
 have:=Xy (iP zs);rw[k9] at this;exact this
theorem sI {a b:List Int} (ha:Up a) (hb:Up b) (h:∀x,x∈a ↔ x∈b):a=b:=by
 induction a generalizing b with
 |nil=>
   cases b with
   |nil=>rfl
   |cons y s=>exact absurd ((h y).mpr (by simp)) (by simp)
 |cons x r ih=>
   cases b with
   |nil=>exact absurd ((h x).mp (by simp)) (by simp)
   |cons y s=>
     unfold Up at ha hb;rw[aX] at ha hb
     have hxy:x=y:=by
      have h1:=(h x).mp (by simp);have h2:=(h y).mpr (by simp);simp only[aK] at h1 h2;rcases h1 with e|e
      ·exact e
      ·rcases h2 with e2|e2
       ·exact e2.symm
       ·have:=ha.1 _ e2;have:=hb.1 _ e;omega
     subst hxy;congr 1;refine ih ha.2 hb.2 fun z=>?_;have hz:=h z;simp only[aK] at hz;constructor
     ·intro hr;rcases hz.mp (.inr hr) with e|e
      ·have:=ha.1 _ hr; omega
      ·exact e
     ·intro hr;rcases hz.mpr (.inr hr) with e|e
      ·have:=hb.1 _ hr; omega
      ·exact e
def rU (c:Bool) (x:Int) (m:List Int):List Int:=if c=true then x::m else m
def yM (keep:Bool->Bool->Bool):List Int->List Int->List Int
 |[],[]=>[]
 |x::r,[]=>rU (keep true false) x (yM keep r [])
 |[],y::s=>rU (keep false true) y (yM keep [] s)
 |x::r,y::s=>
   if x<y then rU (keep true false) x (yM keep r (y::s))
   else if y<x then rU (keep false true) y (yM keep (x::r) s)
   else rU (keep true true) x (yM keep r s)
termination_by a b=>a.length+b.length
theorem zW (keep:Bool->Bool->Bool) (z:Int) (m a' b' a b:List Int) (pa pb:Bool) (h1:Up m) (h2:∀x,x∈m ↔ ((x∈a'\/x∈b')/\keep (decide (x∈a')) (decide (x∈b'))=true)) (bD:∀x,x∈a'\/x∈b'->z<x)
  (hp:pa=true\/pb=true) (ha:∀x,x∈a ↔ ((x=z/\pa=true)\/x∈a')) (hb:∀x,x∈b ↔ ((x=z/\pb=true)\/x∈b')) {o:List Int} (ho:o=if keep pa pb then z::m else m) :
  Up o/\∀ x,x∈o ↔ ((x∈a\/x∈b)/\keep (decide (x∈a)) (decide (x∈b))=true):=by
 subst ho;have hza:z∉a':=fun h=>Int.lt_irrefl _ (bD z (.inl h));have hzb:z∉b':=fun h=>Int.lt_irrefl _ (bD z (.inr h));have hzm:z∉m:=fun h=>((h2 z).mp h).1.elim hza hzb;refine⟨?_,fun x=>?_⟩
 ·split
  ·unfold Up;rw[aX];exact⟨fun y hy=>bD y ((h2 y).mp hy).1,h1⟩
  ·exact h1
 ·by_cases hx:x=z
  ·subst hx;have da:decide (x∈a)=pa:=by cases pa<;>simp[ha,hza]
   have db:decide (x∈b)=pb:=by cases pb<;>simp[hb,hzb]
   have hor:x∈a\/x∈b:=by
    rcases hp with h|h
    ·left; simp[ha,h]
    ·right; simp[hb,h]
   rw[da,db];simp only[hor,true_and];split
   ·rename_i hk;simp[hk]
   ·rename_i hk;simp[hk,hzm]
  ·have da:x∈a ↔ x∈a':=by simp[ha,hx]
   have db:x∈b ↔ x∈b':=by simp[hb,hx]
   simp only[da,db];rw[<-h2];split
   ·simp[hx]
   ·rfl
theorem KQ (keep:Bool->Bool->Bool) (a b:List Int) (ha:Up a) (hb:Up b):Up (yM keep a b)/\∀ x,x∈yM keep a b ↔ ((x∈a\/x∈b)/\keep (decide (x∈a)) (decide (x∈b))=true):=by
 induction a,b using yM.induct with
 |case1=>simp[yM,Up]
 |case2 x r ih=>
   unfold Up at ha;rw[aX] at ha;obtain⟨h1,h2⟩:=ih ha.2 hb;exact zW keep x (yM keep r []) r [] (x::r) [] true false h1 h2 (fun y hy=>hy.elim (ha.1 y) (fun h=>by simp at h)) (.inl rfl) (fun y=>by simp) (fun y=>by simp) (by rw[yM]; rfl)
 |case3 y s ih=>
   unfold Up at hb;rw[aX] at hb;obtain⟨h1,h2⟩:=ih ha hb.2;exact zW keep y (yM keep [] s) [] s [] (y::s) false true h1 h2 (fun x hx=>hx.elim (fun h=>by simp at h) (hb.1 x)) (.inr rfl) (fun y=>by simp) (fun y=>by simp) (by rw[yM]; rfl)
 |case4 x r y s bD ih=>
   have IQ:=ha;have iK:=hb;unfold Up at ha hb;rw[aX] at ha hb;obtain⟨h1,h2⟩:=ih ha.2 iK
   exact zW keep x (yM keep r (y::s)) r (y::s) (x::r) (y::s) true false h1 h2 (fun z hz=>by
    rcases hz with hz|hz
    ·exact ha.1 z hz
    ·rcases aK.mp hz with e|e
     ·omega
     ·have:=hb.1 z e; omega) (.inl rfl) (fun z=>by simp) (fun z=>by simp) (by rw[yM,if_pos bD]; rfl)
 |case5 x r y s hn bD ih=>
   have IQ:=ha;have iK:=hb;unfold Up at ha hb;rw[aX] at ha hb;obtain⟨h1,h2⟩:=ih IQ hb.2
   exact zW keep y (yM keep (x::r) s) (x::r) s (x::r) (y::s) false true h1 h2 (fun z hz=>by
    rcases hz with hz|hz
    ·rcases aK.mp hz with e|e
     ·omega
     ·have:=ha.1 z e; omega
    ·exact hb.1 z hz) (.inr rfl) (fun z=>by simp) (fun z=>by simp) (by rw[yM,if_neg hn,if_pos bD]; rfl)
 |case6 x r y s hn hn2 ih=>
   obtain rfl:x=y:=by omega
   unfold Up at ha hb;rw[aX] at ha hb;obtain⟨h1,h2⟩:=ih ha.2 hb.2
   exact zW keep x (yM keep r s) r s (x::r) (x::s) true true h1 h2 (fun z hz=>by
    rcases hz with hz|hz
    ·exact ha.1 z hz
    ·exact hb.1 z hz) (.inl rfl) (fun z=>by simp) (fun z=>by simp) (by rw[yM,if_neg hn,if_neg hn2]; rfl)
def uni (a b:List Int):List Int:=yM (fun _ _=>true) (cV a) (cV b)
def meet (a b:List Int):List Int:=yM (fun p r=>p&&r) (cV a) (cV b)
def minus (a b:List Int):List Int:=yM (fun _ r=>!r) (cV a) (cV b)
theorem Sv (a b:List Int):Up (uni a b)/\∀ x,x∈uni a b ↔ x∈a\/x∈b:=by
 obtain⟨a1,a2⟩:=eY a;obtain⟨b1,b2⟩:=eY b;obtain⟨h1,h2⟩:=KQ (fun _ _=>true) _ _ a1 b1;exact⟨h1,fun x=>by rw[uni,h2]; simp[a2,b2]⟩
theorem A3 (a b:List Int):Up (meet a b)/\∀ x,x∈meet a b ↔ x∈a/\x∈b:=by
 obtain⟨a1,a2⟩:=eY a;obtain⟨b1,b2⟩:=eY b;obtain⟨h1,h2⟩:=KQ (fun p r=>p&&r) _ _ a1 b1
 exact ⟨h1, fun x => by rw [meet, h2]; simp only [a2, b2, ae, decide_eq_true_eq]; constructor
                        ·exact fun h=>h.2
                        ·exact fun h=>⟨.inl h.1,h⟩⟩
theorem oS (a b:List Int):Up (minus a b)/\∀ x,x∈minus a b ↔ x∈a/\x∉b:=by
 obtain⟨a1,a2⟩:=eY a;obtain⟨b1,b2⟩:=eY b;obtain⟨h1,h2⟩:=KQ (fun _ r=>!r) _ _ a1 b1
 exact⟨h1,fun x=>by
  rw[minus,h2];simp only[a2,b2];by_cases hb:x∈b<;>simp[hb]⟩
def gClo:List AV->Heap->Option (AV × Heap)
 |[.list 1 []],[]=>some (.list 1 [],[])
 |_,_=>none
def Xz (k:Nat) (xs es:List AV):Option (List AV × Option Nat):=
 match k,es with
 |1,[]=>if xs.length<=jx then match j8 xs with
   |some zs=>some ((dd zs++List.replicate (zs.length-(dd zs).length) 0).map (AV.int .i64),some (dd zs).length)
   |none=>none
   else none
 |_,_=>none
/- What functions on lists of ints answer, in plain terms. -/
def ka:List Int->List Int->Int
 |[],[]=>0
 |[],_::_=>-1
 |_::_,[]=>1
 |x::r,y::s=>if y<x then 1 else if x<y then -1 else ka r s
theorem sA:∀{a b:List Int},ka a b=0 ↔ a=b
 |[],[]=>by simp[ka]
 |[],_::_=>by simp[ka]
 |_::_,[]=>by simp[ka]
 |x::r,y::s=>by
   have ih:=sA (a:=r) (b:=s);unfold ka;split
   ·rename_i h; simp; intro e; omega
   ·split
    ·rename_i h; simp; intro e; omega
    ·rw[ih]; simp; intro _; omega
def n8 (n:Int):Int->List Int->Bool
 |_,[]=>true
 |p,x::r=>decide (0<=x)&&(decide (x<n)&&(decide (p<x)&&n8 n x r))
theorem AL (n:Int):∀{l:List Int} {p:Int},n8 n p l=true ↔ Up l/\∀ x∈l,p<x/\0<=x/\x<n
 |[],p=>by simp[n8,Up]
 |x::r,p=>by
   have ih:=AL n (l:=r) (p:=x);simp only[n8,ae,decide_eq_true_eq,ih,Up,aX,aK,forall_eq_or_imp];constructor
   ·rintro⟨h1,h2,h3,h4,h5⟩;exact⟨⟨fun y hy=>(h5 y hy).1,h4⟩,⟨h3,h1,h2⟩,fun y hy=>⟨by have:=(h5 y hy).1; omega,(h5 y hy).2⟩⟩
   ·rintro⟨⟨h1,h2⟩,⟨h3,h4,h5⟩,h6⟩;exact⟨h4,h5,h3,h2,fun y hy=>⟨h1 y hy,(h6 y hy).2⟩⟩
def prev (l:List Int) (i:Nat):Int:=if i=0 then -1 else l.getD (i-1) 0
theorem prev_zero (l:List Int):prev l 0=-1:=rfl
theorem sj (l:List Int) (i:Nat) (h:i<l.length):prev l (i+1)=l[i]:=by simp[prev,h]
def sZ (x:Int):List Int->List Int
 |[]=>[x]
 |y::r=>if y<x then y::sZ x r else if y=x then y::r else x::y::r
theorem Tz (x:Int):∀l,(sZ x l).length<=l.length+1
 |[]=>by simp[sZ]
 |y::r=>by
   have:=Tz x r;unfold sZ;split
   ·simp; omega
   ·split<;>simp
theorem Kg (x z:Int):∀l,z∈sZ x l ↔ z=x\/z∈l
 |[]=>by simp[sZ]
 |y::r=>by
   have ih:=Kg x z r;unfold sZ;split
   ·simp only[aK,ih]; constructor<;>(intro h; rcases h with h|h|h<;>simp[h])
   ·split
    ·rename_i e; subst e; simp
    ·simp
theorem Zt (x:Int):∀{l},Up l->Up (sZ x l)
 |[],_=>by simp[sZ,Up]
 |y::r,h=>by
   obtain⟨h1,h2⟩:=aX.1 h;unfold sZ;split
   ·rename_i bD;refine aX.2 ⟨fun z hz=>?_,Zt x h2⟩;rcases (Kg x z r).1 hz with e|e
    ·omega
    ·exact h1 z e
   ·split
    ·exact h
    ·refine aX.2 ⟨fun z hz=>?_,h⟩;rcases aK.1 hz with e|e
     ·omega
     ·have:=h1 z e; omega
def pos (x:Int):List Int->Nat
 |[]=>0
 |y::r=>if y<x then pos x r+1 else 0
theorem adM (x:Int):∀l,pos x l<=l.length
 |[]=>by simp[pos]
 |y::r=>by have:=adM x r; unfold pos; split<;>simp<;>omega
theorem Ty (x:Int):∀l,sZ x l=if l[pos x l]?=some x then l else l.take (pos x l)++x::l.drop (pos x l)
 |[]=>by simp[sZ,pos]
 |y::r=>by
   have ih:=Ty x r;unfold sZ pos;split
   ·rw[ih];simp only[List.getElem?_cons_succ,List.take_succ_cons,List.drop_succ_cons];split<;>simp
   ·simp only[List.getElem?_cons_zero,ai,List.take_zero,List.drop_zero,rP]
def ofL (l:List Int):List Int:=l.foldl (fun o x=>sZ x o) []
theorem aaJ:∀(l o:List Int),Up o->Up (l.foldl (fun o x=>sZ x o) o)/\∀ z,z∈l.foldl (fun o x=>sZ x o) o ↔ z∈o\/z∈l
 |[],o,h=>⟨h,fun z=>by simp⟩
 |x::r,o,h=>by
   obtain⟨h1,h2⟩:=aaJ r (sZ x o) (Zt x h);refine⟨h1,fun z=>?_⟩;rw[fN,h2,Kg];simp only[aK];constructor
   ·rintro ((h|h)|h)<;>simp[h]
   ·rintro (h|h|h)<;>simp[h]
theorem alb (l:List Int):ofL l=cV l:=by
 obtain⟨h1,h2⟩:=aaJ l [] (by simp[Up]);obtain⟨h3,h4⟩:=eY l;exact sI h1 h3 fun x=>by rw[h4]; exact (h2 x).trans (by simp)
/- Sets of nodes as bits: plain facts. -/
def tz (x:Nat):Nat:=Lib.ctz 64 x
theorem kY {x:Nat} (h0:x≠0) (h:x<18446744073709551616):∃m,x=2 ^ tz x*(2*m+1)/\tz x<64:=by
 have:=Lib.ctzFrom_spec 64 x (by omega) h;unfold tz Lib.ctz;rw[if_neg h0];exact this
theorem QU (k m j:Nat):(2 ^ k*(2*m+1)).testBit j=if j<k then false else if j=k then true else m.testBit (j-k-1):=by
 rw[Nat.mul_comm,Nat.testBit_mul_two_pow];by_cases h:j<k
 ·simp[h,show ¬k<=j by omega]
 ·rw[if_neg h];have hk:k<=j:=by omega
  by_cases e:j=k
  ·subst e; simp[Nat.testBit_zero]
  ·rw[if_neg e];obtain⟨d,hd⟩:∃d,j-k=d+1:=⟨j-k-1,by omega⟩;rw[hd,Nat.testBit_succ,show (2*m+1) / 2=m by omega];simp[hk]
theorem adK (k m j:Nat):(2 ^ k*(2*m+1)-1).testBit j=if j<k then true else if j=k then false else m.testBit (j-k-1):=by
 have e:2 ^ k*(2*m+1)-1=2 ^ (k+1)*m+(2 ^ k-1):=by
  have:0<2 ^ k:=Sp k;rw[Nat.pow_succ,Nat.mul_add,Nat.mul_one,<-Nat.mul_assoc];omega
 have hp:0<2 ^ k:=Sp k;rw[e,Nat.testBit_two_pow_mul_add _ (by rw[Nat.pow_succ]; omega)];by_cases h:j<k
 ·rw[if_pos (by omega),if_pos h,eK]; simp[h]
 ·rw[if_neg h];by_cases e2:j=k
  ·subst e2;rw[if_pos (by omega),if_pos rfl,eK]; simp
  ·rw[if_neg (by omega),if_neg e2,show j-(k+1)=j-k-1 by omega]
theorem Ao {x:Nat} (h0:x≠0) (h:x<18446744073709551616) (j:Nat):(x &&& (x-1)).testBit j=(x.testBit j&&decide (j≠tz x)):=by
 obtain⟨m,hm,_⟩:=kY h0 h;rw[Nat.testBit_and]
 conv=>lhs; rw[hm]
 conv=>rhs; rw[hm]
 rw[QU,adK];have hz:tz (2 ^ tz x*(2*m+1))=tz x:=by rw[<-hm]
 rw[hz];by_cases h:j<tz x
 ·simp[h]
 ·by_cases e:j=tz x
  ·simp[e]
  ·simp[h,e]
theorem ug {x:Nat} (h0:x≠0) (h:x<18446744073709551616):x.testBit (tz x)=true/\∀ j,j<tz x->x.testBit j=false:=by
 obtain⟨m,hm,_⟩:=kY h0 h;constructor
 ·conv=>lhs; arg 1; rw[hm]
  rw[QU]; simp
 ·intro j hj
  conv=>lhs; arg 1; rw[hm]
  rw[QU]; simp[hj]
theorem aaQ {x:Nat} (h0:x≠0):x &&& (x-1)<x:=by
 have:=Nat.and_le_right (n:=x) (m:=x-1);omega
def fG (m:Nat):List Int:=((List.range 64).filter fun j=>m.testBit j).map fun j=>((j:Nat):Int)
theorem gb {m:Nat} {x:Int}:x∈fG m ↔ ∃j:Nat,x=j/\j<64/\m.testBit j=true:=by
 unfold fG;simp only[List.mem_map,List.mem_filter,List.mem_range];constructor
 ·rintro⟨j,⟨h1,h2⟩,rfl⟩; exact⟨j,rfl,h1,h2⟩
 ·rintro⟨j,rfl,h1,h2⟩; exact⟨j,⟨h1,h2⟩,rfl⟩
theorem mT (m:Nat):Up (fG m):=by
 unfold fG Up;refine List.Pairwise.map _ (fun a b h=>by omega) (List.Pairwise.filter _ List.pairwise_lt_range)
theorem PH:fG 0=[]:=by simp[fG]
theorem Fv (m:Nat):(fG m).length<=64:=by
 unfold fG;rw[jQ];exact Nat.le_trans (List.length_filter_le _ _) (by simp)
theorem Bl {m:Nat} (h0:m≠0) (h:m<18446744073709551616):fG m=(tz m:Int)::fG (m &&& (m-1)):=by
 obtain⟨b1,b2⟩:=ug h0 h;obtain⟨_,_,bD⟩:=kY h0 h;refine sI (mT m) (aX.2 ⟨fun x hx=>?_,mT _⟩) fun x=>?_
 ·obtain⟨j,rfl,h1,h2⟩:=gb.1 hx;rw[Ao h0 h,ae,decide_eq_true_eq] at h2;have:¬j<tz m:=fun k=>by rw[b2 j k] at h2; simp at h2
  omega
 ·rw[aK,gb,gb];constructor
  ·rintro⟨j,rfl,h1,h2⟩;by_cases e:j=tz m
   ·left; rw[e]
   ·right; exact⟨j,rfl,h1,by rw[Ao h0 h,h2]; simp[e]⟩
  ·rintro (rfl|⟨j,rfl,h1,h2⟩)
   ·exact⟨tz m,rfl,bD,b1⟩
   ·rw[Ao h0 h,ae] at h2;exact⟨j,rfl,h1,h2.1⟩
def mskF (l:List Int) (m:Nat):Nat:=l.foldl (fun m v=>m ||| 2 ^ v.toNat) m
def KP (l:List Int):Nat:=mskF l 0
theorem TX:∀(l:List Int) (m j:Nat),(∀v∈l,0<=v)->(mskF l m).testBit j=(m.testBit j||decide ((j:Int)∈l))
 |[],m,j,_=>by simp[mskF]
 |v::r,m,j,h=>by
   have ih:=TX r (m ||| 2 ^ v.toNat) j (fun w hw=>h w (by simp[hw]));have hv:=h v (by simp);unfold mskF at ih ⊢;rw[fN,ih,Nat.testBit_or,Nat.testBit_two_pow];have e:decide (v.toNat=j)=decide ((j:Int)=v):=by rw[m8,decide_eq_true_eq,decide_eq_true_eq]; omega
   rw[e,Bool.or_assoc];congr 1;rw[m8]; simp
theorem Z7:∀(l:List Int) (m:Nat),(∀v∈l,v<64)->m<18446744073709551616->mskF l m<18446744073709551616
 |[],m,_,h=>h
 |v::r,m,hv,h=>by
   have h2:2 ^ v.toNat<2 ^ 64:=nD (by decide) (by have:=hv v (by simp); omega);exact Z7 r _ (fun w hw=>hv w (by simp[hw])) (Nat.or_lt_two_pow (n:=64) h h2)
theorem mR {l:List Int} {j:Nat} (h:∀v∈l,0<=v):(KP l).testBit j=decide ((j:Int)∈l):=by
 unfold KP; rw[TX l 0 j h]; simp
theorem alh {l:List Int} (h:∀v∈l,v<64):KP l<18446744073709551616:=Z7 l 0 h (by decide)
theorem afI {l:List Int} (hu:Up l) (h:∀v∈l,0<=v/\v<64):fG (KP l)=l:=by
 refine sI (mT _) hu fun x=>?_;rw[gb];constructor
 ·rintro⟨j,rfl,_,hj⟩;rw[mR (fun v hv=>(h v hv).1)] at hj;simpa using hj
 ·intro hx;obtain⟨h0,h1⟩:=h x hx;refine⟨x.toNat,by omega,by omega,?_⟩;rw[mR (fun v hv=>(h v hv).1)];simpa[show ((x.toNat:Nat):Int)=x by omega] using hx
/-! Operations of uint64 -/
theorem aim {n:Nat} (h:n<18446744073709551616):IntKind.u64.wrap (n:Int)=(n:Int):=by rw[IntKind.wrap_u64]; omega
theorem Wm {v:Int} (h0:0<=v) (h1:v<64):IntKind.u64.wrap (1*2 ^ (min v.toNat 64))=((2 ^ v.toNat:Nat):Int):=by
 have e:min v.toNat 64=v.toNat:=by omega
 have h2:2 ^ v.toNat<2 ^ 64:=nD (by decide) (by omega);rw[e,Int.one_mul,show ((2:Int) ^ v.toNat)=((2 ^ v.toNat:Nat):Int) by simp,aim h2]
theorem decU {m:Nat} (h0:m≠0) (h:m<18446744073709551616):IntKind.u64.wrap ((m:Int)-1)=((m-1:Nat):Int):=by
 rw[show (m:Int)-1=((m-1:Nat):Int) by omega,aim (by omega)]
/- Edges and graphs: plain facts. -/
abbrev Ed:=Int × Int
def bW (e:Ed):AV:=.agg [.int .i64 e.1,.int .i64 e.2]
def bU (l:List Ed):List AV:=l.map bW
theorem az (l:List Ed):(bU l).length=l.length:=jQ _
theorem aQ (l:List Ed) (i:Nat):(bU l)[i]?=(l[i]?).map bW:=List.getElem?_map
theorem bw (l:List Ed) (i:Nat) (h:i<(bU l).length):(bU l)[i]=bW (l[i]'(by simpa[bU] using h)):=by simp[bU]
theorem rZ:bU []=[]:=rfl
theorem aff (x:Ed) (l:List Ed):bU (x::l)=.agg [.int .i64 x.1,.int .i64 x.2]::bU l:=rfl
theorem Ps (l:List Ed) (u v:Int):bU l++[.agg [.int .i64 u,.int .i64 v]]=bU (l++[(u,v)]):=by simp[bU,bW]
theorem LI (l:List Ed) (n:Nat):(bU l).take n=bU (l.take n):=by simp[bU]
theorem aA (l:List Ed):bG (aI (bU l))=true:=by
 induction l with
 |nil=>rfl
 |cons x r ih=>simp only[bU,kA,aI,bW,AV.cells,List.cons_append,rP,bG,AV.leaf,dI] at ih ⊢; exact ih
theorem au (l:List Ed):gK (bU l)=true:=by
 induction l with
 |nil=>rfl
 |cons x r ih=>simp only[bU,kA,bW,gK,clean,dI,Bool.and_true] at ih ⊢; exact ih
theorem ak (l:List Int):gK (ints l)=true:=by
 induction l with
 |nil=>rfl
 |cons x r ih=>simp only[ints,kA,gK,clean] at ih ⊢; rw[ih]; rfl
def KY (a b:Ed):Prop:=a.1<b.1\/a.1=b.1/\a.2<b.2
instance (a b:Ed):Decidable (KY a b):=by unfold KY; infer_instance
theorem abD {a b c:Ed} (h:KY a b) (k:KY b c):KY a c:=by unfold KY at *; omega
theorem ag2 {a:Ed}:¬KY a a:=by unfold KY; omega
def UpE (l:List Ed):Prop:=l.Pairwise KY
def rE (u v:Int):Ed:=(if v<u then v else u,if u<v then v else u)
def L6:Option Ed->Ed->Prop
 |none,_=>False
 |some q,e=>¬KY q e
instance:∀p e,Decidable (L6 p e)
 |none,_=>instDecidableFalse
 |some q,e=>inferInstanceAs (Decidable (¬KY q e))
def fX (n:Int):Option Ed->List Ed->Int
 |_,[]=>0
 |p,e::r=>if e.1<0\/e.2<=e.1\/n<=e.2 then 6 else if L6 p e then 5 else fX n (some e) r
def tt (n:Int) (l:List Ed):Int:=if n<0\/64<n then 1 else fX n none l
theorem LS (n:Int):∀{l:List Ed} {p:Option Ed},fX n p l=0 ↔ UpE l/\(∀e∈l,0<=e.1/\e.1<e.2/\e.2<n)/\∀ q,p=some q->∀e∈l,KY q e
 |[],p=>by simp[fX,UpE]
 |e::r,p=>by
   have ih:=LS n (l:=r) (p:=some e);unfold fX;by_cases h1:e.1<0\/e.2<=e.1\/n<=e.2
   ·rw[if_pos h1];constructor
    ·intro h; cases h
    ·rintro⟨_,h,_⟩; have:=h e (by simp); omega
   ·rw[if_neg h1];cases p with
    |none=>
      rw[if_neg (show ¬L6 none e from fun h=>h),ih];simp only[UpE,aX,aK,forall_eq_or_imp];constructor
      ·rintro⟨a,b,c⟩; exact⟨⟨fun z hz=>c e rfl z hz,a⟩,⟨by omega,b⟩,fun q hq=>by cases hq⟩
      ·rintro⟨⟨a,b⟩,⟨c,d⟩,f⟩; exact⟨b,d,fun q hq=>by cases hq; exact a⟩
    |some q=>
      by_cases h2:KY q e
      ·rw[if_neg (show ¬L6 (some q) e from fun h=>h h2),ih];simp only[UpE,aX,aK,forall_eq_or_imp];constructor
       ·rintro⟨a,b,c⟩;exact⟨⟨fun z hz=>c e rfl z hz,a⟩,⟨by omega,b⟩,fun q' hq=>by cases hq; exact⟨h2,fun z hz=>abD h2 (c e rfl z hz)⟩⟩
       ·rintro⟨⟨a,b⟩,⟨c,d⟩,f⟩; exact⟨b,d,fun q hq=>by cases hq; exact a⟩
      ·rw[if_pos (show L6 (some q) e from h2)];constructor
       ·intro h; cases h
       ·rintro⟨_,_,h⟩; exact absurd (h q rfl e (by simp)) h2
def jh (n:Int) (l:List Ed):Prop:=(0<=n/\n<=64)/\UpE l/\∀ e∈l,0<=e.1/\e.1<e.2/\e.2<n
theorem eB {n:Int} {l:List Ed}:tt n l=0 ↔ jh n l:=by
 unfold tt jh;by_cases h:n<0\/64<n
 ·rw[if_pos h]; constructor
  ·intro h; cases h
  ·rintro⟨h2,_⟩; omega
 ·rw[if_neg h,LS];constructor
  ·rintro⟨a,b,_⟩; exact⟨by omega,a,b⟩
  ·rintro⟨_,a,b⟩; exact⟨a,b,fun q hq=>by cases hq⟩
end Go.Bm
