/- A plain sort of ints; the library's sort as a function that writes into the slice it is given. -/
import Derived.Lib.TrailingZeros
import Derived.Laws.BitsAllLaws
import Derived.Test.YtbnheahpdodmjabGreatDoorRunX
open Bool renaming and_eq_true → ae, eq_iff_iff → vJ, true_and → WE
open List renaming foldl_cons → dV, length_map → aX, map_cons → eQ, mem_cons → aO, nil_append → oV, pairwise_cons → bK
open Nat renaming testBit_two_pow_sub_one → eY, two_pow_pos → SK
open Option.some renaming injEq → af
namespace Go.Am
def mP:List AV->Option (List Int)
 |[]=>some []
 |.int .i64 n::r=>match mP r with
   |some l=>some (n::l)
   |none=>none
 |_=>none
theorem Bl:∀{cs:List AV} {zs:List Int},mP cs=some zs->cs=zs.map (AV.int .i64)
 |[],zs,h=>by simp[mP] at h; subst h; rfl
 |c::r,zs,h=>by
   unfold mP at h;split at h
   ·rename_i heq; cases heq
   ·rename_i n r' heq;cases heq;split at h
    ·rename_i l hl;simp at h;subst h;rw[Bl hl];rfl
    ·cases h
   ·cases h
theorem vm (zs:List Int):mP (zs.map (AV.int .i64))=some zs:=by
 induction zs with
 |nil=>rfl
 |cons z r ih=>simp[mP,ih]
end Go.Am
namespace Go.Bm
open Go.Am
def Vb (x:Int):List Int->List Int
 |[]=>[x]
 |y::r=>if x<=y then x::y::r else y::Vb x r
def jz:List Int->List Int
 |[]=>[]
 |x::r=>Vb x (jz r)
theorem Gm (x:Int):∀l,(Vb x l).Perm (x::l)
 |[]=>.refl _
 |y::r=>by
   unfold Vb;split
   ·exact .refl _
   ·exact ((Gm x r).cons y).trans (List.Perm.swap x y r)
theorem qu:∀l,(jz l).Perm l
 |[]=>.refl _
 |x::r=>(Gm x (jz r)).trans ((qu r).cons x)
theorem agj {x z:Int} {l:List Int}:z∈Vb x l ↔ z=x\/z∈l:=by
 rw[(Gm x l).mem_iff]; simp
theorem Va (x:Int):∀{l:List Int},l.Pairwise (·<=·)->(Vb x l).Pairwise (·<=·)
 |[],_=>by simp[Vb]
 |y::r,h=>by
   obtain⟨h1,h2⟩:=bK.1 h;unfold Vb;split
   ·rename_i hle;refine bK.2 ⟨fun z hz=>?_,h⟩;rcases aO.1 hz with e|e
    ·omega
    ·have:=h1 z e; omega
   ·rename_i hle;refine bK.2 ⟨fun z hz=>?_,Va x h2⟩;rcases agj.1 hz with e|e
    ·omega
    ·exact h1 z e
theorem Bk:∀l,(jz l).Pairwise (·<=·)
 |[]=>.nil
 |x::r=>Va x (Bk r)
theorem l9 (l:List Int):(jz l).length=l.length:=(qu l).length_eq
theorem Ik:∀{l m:List Int},l.Perm m->l.Pairwise (·<=·)->m.Pairwise (·<=·)->l=m
 |[],m,h,_,_=>(List.Perm.nil_eq h)
 |x::r,[],h,_,_=>by have:=h.length_eq; simp at this
 |x::r,y::s,h,h1,h2=>by
   obtain⟨a1,a2⟩:=bK.1 h1;obtain⟨b1,b2⟩:=bK.1 h2;have hx:x∈y::s:=h.mem_iff.1 (by simp);have hy:y∈x::r:=h.mem_iff.2 (by simp)
   have e:x=y:=by
    rcases aO.1 hx with e|e
    ·exact e
    ·rcases aO.1 hy with e2|e2
     ·exact e2.symm
     ·have:=a1 y e2; have:=b1 x e; omega
   subst e;rw[Ik (List.Perm.cons_inv h) a2 b2]
def WR (k:Nat) (xs es:List AV):Option (List AV × Option Nat):=
 match k,es with
 |1,[]=>if xs.length<=ks then match mP xs with
   |some zs=>some ((jz zs).map (AV.int .i64),none)
   |none=>none
   else none
 |_,_=>none
/- Plain facts on strictly rising lists of ints: what sort and compact give, and what a merge gives. -/
set_option linter.unusedVariables false
set_option linter.unusedSimpArgs false
def Up (l:List Int):Prop:=l.Pairwise (·<·)
def dd:List Int->List Int
 |[]=>[]
 |[x]=>[x]
 |x::y::r=>if x=y then dd (y::r) else x::dd (y::r)
theorem Yt:∀(l:List Int) (z:Int),z∈dd l ↔ z∈l
 |[],z=>by simp[dd]
 |[x],z=>by simp[dd]
 |x::y::r,z=>by
   have ih:=Yt (y::r) z;unfold dd;split
   ·rename_i e; subst e; rw[ih]; simp
   ·rw[aO,ih,aO (a:=z) (b:=x)]
theorem Yu:∀l:List Int,(dd l).length<=l.length
 |[]=>by simp[dd]
 |[x]=>by simp[dd]
 |x::y::r=>by
   have ih:=Yu (y::r);unfold dd;split
   ·simp at *; omega
   ·simp at *; omega
theorem akG:∀{l:List Int},l.Pairwise (·<=·)->Up (dd l)
 |[],_=>by simp[dd,Up]
 |[x],_=>by simp[dd,Up]
 |x::y::r,h=>by
   obtain⟨h1,h2⟩:=bK.1 h;have ih:=akG h2;unfold dd;split
   ·exact ih
   ·rename_i qF;refine bK.2 ⟨fun z hz=>?_,ih⟩;have hz:=(Yt _ _).1 hz;have a:=h1 y (by simp);have b:=(bK.1 h2).1;rcases aO.1 hz with e|e
    ·subst e; omega
    ·have:=b z e; omega
def dE (zs:List Int):List Int:=dd (jz zs)
theorem gR (zs:List Int):Up (dE zs)/\∀ x,x∈dE zs ↔ x∈zs:=
 ⟨akG (Bk zs),fun x=>(Yt _ _).trans (qu zs).mem_iff⟩
theorem oE (zs:List Int):(dE zs).length<=zs.length:=by
 have:=Yu (jz zs);rw[l9] at this;exact this
theorem tK {a b:List Int} (ha:Up a) (hb:Up b) (h:∀x,x∈a ↔ x∈b):a=b:=by
 induction a generalizing b with
 |nil=>
   cases b with
   |nil=>rfl
   |cons y s=>exact absurd ((h y).mpr (by simp)) (by simp)
 |cons x r ih=>
   cases b with
   |nil=>exact absurd ((h x).mp (by simp)) (by simp)
   |cons y s=>
     unfold Up at ha hb;rw[bK] at ha hb
     have hxy:x=y:=by
      have h1:=(h x).mp (by simp);have h2:=(h y).mpr (by simp);simp only[aO] at h1 h2;rcases h1 with e|e
      ·exact e
      ·rcases h2 with e2|e2
       ·exact e2.symm
       ·have:=ha.1 _ e2;have:=hb.1 _ e;omega
     subst hxy;congr 1;refine ih ha.2 hb.2 fun z=>?_;have hz:=h z;simp only[aO] at hz;constructor
     ·intro hr;rcases hz.mp (.inr hr) with e|e
      ·have:=ha.1 _ hr; omega
      ·exact e
     ·intro hr;rcases hz.mpr (.inr hr) with e|e
      ·have:=hb.1 _ hr; omega
      ·exact e
def tf (c:Bool) (x:Int) (m:List Int):List Int:=if c=true then x::m else m
def yS (keep:Bool->Bool->Bool):List Int->List Int->List Int
 |[],[]=>[]
 |x::r,[]=>tf (keep true false) x (yS keep r [])
 |[],y::s=>tf (keep false true) y (yS keep [] s)
 |x::r,y::s=>
   if x<y then tf (keep true false) x (yS keep r (y::s))
   else if y<x then tf (keep false true) y (yS keep (x::r) s)
   else tf (keep true true) x (yS keep r s)
termination_by a b=>a.length+b.length
theorem Af (keep:Bool->Bool->Bool) (z:Int) (m a' b' a b:List Int) (pa pb:Bool) (h1:Up m) (h2:∀x,x∈m ↔ ((x∈a'\/x∈b')/\keep (decide (x∈a')) (decide (x∈b'))=true)) (bE:∀x,x∈a'\/x∈b'->z<x)
  (hp:pa=true\/pb=true) (ha:∀x,x∈a ↔ ((x=z/\pa=true)\/x∈a')) (hb:∀x,x∈b ↔ ((x=z/\pb=true)\/x∈b')) {o:List Int} (ho:o=if keep pa pb then z::m else m) :
  Up o/\∀ x,x∈o ↔ ((x∈a\/x∈b)/\keep (decide (x∈a)) (decide (x∈b))=true):=by
 subst ho;have hza:z∉a':=fun h=>Int.lt_irrefl _ (bE z (.inl h));have hzb:z∉b':=fun h=>Int.lt_irrefl _ (bE z (.inr h));have hzm:z∉m:=fun h=>((h2 z).mp h).1.elim hza hzb;refine⟨?_,fun x=>?_⟩
 ·split
  ·unfold Up;rw[bK];exact⟨fun y hy=>bE y ((h2 y).mp hy).1,h1⟩
  ·exact h1
 ·by_cases hx:x=z
  ·subst hx;have da:decide (x∈a)=pa:=by cases pa<;>simp[ha,hza]
   have db:decide (x∈b)=pb:=by cases pb<;>simp[hb,hzb]
   have hor:x∈a\/x∈b:=by
    rcases hp with h|h
    ·left; simp[ha,h]
    ·right; simp[hb,h]
   rw[da,db];simp only[hor,true_and];split
   ·rename_i hk;simp[hk]
   ·rename_i hk;simp[hk,hzm]
  ·have da:x∈a ↔ x∈a':=by simp[ha,hx]
   have db:x∈b ↔ x∈b':=by simp[hb,hx]
   simp only[da,db];rw[<-h2];split
   ·simp[hx]
   ·rfl
theorem Ui (keep:Bool->Bool->Bool) (a b:List Int) (ha:Up a) (hb:Up b):Up (yS keep a b)/\∀ x,x∈yS keep a b ↔ ((x∈a\/x∈b)/\keep (decide (x∈a)) (decide (x∈b))=true):=by
 induction a,b using yS.induct with
 |case1=>simp[yS,Up]
 |case2 x r ih=>
   unfold Up at ha;rw[bK] at ha;obtain⟨h1,h2⟩:=ih ha.2 hb;exact Af keep x (yS keep r []) r [] (x::r) [] true false h1 h2 (fun y hy=>hy.elim (ha.1 y) (fun h=>by simp at h)) (.inl rfl) (fun y=>by simp) (fun y=>by simp) (by rw[yS]; rfl)
 |case3 y s ih=>
   unfold Up at hb;rw[bK] at hb;obtain⟨h1,h2⟩:=ih ha hb.2;exact Af keep y (yS keep [] s) [] s [] (y::s) false true h1 h2 (fun x hx=>hx.elim (fun h=>by simp at h) (hb.1 x)) (.inr rfl) (fun y=>by simp) (fun y=>by simp) (by rw[yS]; rfl)
 |case4 x r y s bE ih=>
   have ha':=ha;have jJ:=hb;unfold Up at ha hb;rw[bK] at ha hb;obtain⟨h1,h2⟩:=ih ha.2 jJ
   exact Af keep x (yS keep r (y::s)) r (y::s) (x::r) (y::s) true false h1 h2 (fun z hz=>by
    rcases hz with hz|hz
    ·exact ha.1 z hz
    ·rcases aO.mp hz with e|e
     ·omega
     ·have:=hb.1 z e; omega) (.inl rfl) (fun z=>by simp) (fun z=>by simp) (by rw[yS,if_pos bE]; rfl)
 |case5 x r y s hn bE ih=>
   have ha':=ha;have jJ:=hb;unfold Up at ha hb;rw[bK] at ha hb;obtain⟨h1,h2⟩:=ih ha' hb.2
   exact Af keep y (yS keep (x::r) s) (x::r) s (x::r) (y::s) false true h1 h2 (fun z hz=>by
    rcases hz with hz|hz
    ·rcases aO.mp hz with e|e
     ·omega
     ·have:=ha.1 z e; omega
    ·exact hb.1 z hz) (.inr rfl) (fun z=>by simp) (fun z=>by simp) (by rw[yS,if_neg hn,if_pos bE]; rfl)
 |case6 x r y s hn hn2 ih=>
   obtain rfl:x=y:=by omega
   unfold Up at ha hb;rw[bK] at ha hb;obtain⟨h1,h2⟩:=ih ha.2 hb.2
   exact Af keep x (yS keep r s) r s (x::r) (x::s) true true h1 h2 (fun z hz=>by
    rcases hz with hz|hz
    ·exact ha.1 z hz
    ·exact hb.1 z hz) (.inl rfl) (fun z=>by simp) (fun z=>by simp) (by rw[yS,if_neg hn,if_neg hn2]; rfl)
def meet (a b:List Int):List Int:=yS (fun p r=>p&&r) (dE a) (dE b)
def minus (a b:List Int):List Int:=yS (fun _ r=>!r) (dE a) (dE b)
theorem tB (a b:List Int):Up (meet a b)/\∀ x,x∈meet a b ↔ x∈a/\x∈b:=by
 obtain⟨a1,a2⟩:=gR a;obtain⟨b1,b2⟩:=gR b;obtain⟨h1,h2⟩:=Ui (fun p r=>p&&r) _ _ a1 b1
 exact ⟨h1, fun x => by rw [meet, h2]; simp only [a2, b2, ae, decide_eq_true_eq]; constructor
                        ·exact fun h=>h.2
                        ·exact fun h=>⟨.inl h.1,h⟩⟩
theorem oA (a b:List Int):Up (minus a b)/\∀ x,x∈minus a b ↔ x∈a/\x∉b:=by
 obtain⟨a1,a2⟩:=gR a;obtain⟨b1,b2⟩:=gR b;obtain⟨h1,h2⟩:=Ui (fun _ r=>!r) _ _ a1 b1
 exact⟨h1,fun x=>by
  rw[minus,h2];simp only[a2,b2];by_cases hb:x∈b<;>simp[hb]⟩
def gClo:List AV->Heap->Option (AV × Heap)
 |[.list 1 []],[]=>some (.list 1 [],[])
 |_,_=>none
def Yv (k:Nat) (xs es:List AV):Option (List AV × Option Nat):=
 match k,es with
 |1,[]=>if xs.length<=ks then match mP xs with
   |some zs=>some ((dd zs++List.replicate (zs.length-(dd zs).length) 0).map (AV.int .i64),some (dd zs).length)
   |none=>none
   else none
 |_,_=>none
/- What functions on lists of ints answer, in plain terms. -/
def ji:List Int->List Int->Int
 |[],[]=>0
 |[],_::_=>-1
 |_::_,[]=>1
 |x::r,y::s=>if y<x then 1 else if x<y then -1 else ji r s
theorem BB:∀{a b:List Int},ji a b=0 ↔ a=b
 |[],[]=>by simp[ji]
 |[],_::_=>by simp[ji]
 |_::_,[]=>by simp[ji]
 |x::r,y::s=>by
   have ih:=BB (a:=r) (b:=s);unfold ji;split
   ·rename_i h; simp; intro e; omega
   ·split
    ·rename_i h; simp; intro e; omega
    ·rw[ih]; simp; intro _; omega
def ud (x:Int):List Int->List Int
 |[]=>[x]
 |y::r=>if y<x then y::ud x r else if y=x then y::r else x::y::r
theorem TL (x:Int):∀l,(ud x l).length<=l.length+1
 |[]=>by simp[ud]
 |y::r=>by
   have:=TL x r;unfold ud;split
   ·simp; omega
   ·split<;>simp
theorem Lb (x z:Int):∀l,z∈ud x l ↔ z=x\/z∈l
 |[]=>by simp[ud]
 |y::r=>by
   have ih:=Lb x z r;unfold ud;split
   ·simp only[aO,ih]; constructor<;>(intro h; rcases h with h|h|h<;>simp[h])
   ·split
    ·rename_i e; subst e; simp
    ·simp
theorem aaV (x:Int):∀{l},Up l->Up (ud x l)
 |[],_=>by simp[ud,Up]
 |y::r,h=>by
   obtain⟨h1,h2⟩:=bK.1 h;unfold ud;split
   ·rename_i bE;refine bK.2 ⟨fun z hz=>?_,aaV x h2⟩;rcases (Lb x z r).1 hz with e|e
    ·omega
    ·exact h1 z e
   ·split
    ·exact h
    ·refine bK.2 ⟨fun z hz=>?_,h⟩;rcases aO.1 hz with e|e
     ·omega
     ·have:=h1 z e; omega
def pos (x:Int):List Int->Nat
 |[]=>0
 |y::r=>if y<x then pos x r+1 else 0
theorem ae7 (x:Int):∀l,pos x l<=l.length
 |[]=>by simp[pos]
 |y::r=>by have:=ae7 x r; unfold pos; split<;>simp<;>omega
theorem TK (x:Int):∀l,ud x l=if l[pos x l]?=some x then l else l.take (pos x l)++x::l.drop (pos x l)
 |[]=>by simp[ud,pos]
 |y::r=>by
   have ih:=TK x r;unfold ud pos;split
   ·rw[ih];simp only[List.getElem?_cons_succ,List.take_succ_cons,List.drop_succ_cons];split<;>simp
   ·simp only[List.getElem?_cons_zero,af,List.take_zero,List.drop_zero,oV]
def ofL (l:List Int):List Int:=l.foldl (fun o x=>ud x o) []
theorem ab6:∀(l o:List Int),Up o->Up (l.foldl (fun o x=>ud x o) o)/\∀ z,z∈l.foldl (fun o x=>ud x o) o ↔ z∈o\/z∈l
 |[],o,h=>⟨h,fun z=>by simp⟩
 |x::r,o,h=>by
   obtain⟨h1,h2⟩:=ab6 r (ud x o) (aaV x h);refine⟨h1,fun z=>?_⟩;rw[dV,h2,Lb];simp only[aO];constructor
   ·rintro ((h|h)|h)<;>simp[h]
   ·rintro (h|h|h)<;>simp[h]
theorem amg (l:List Int):ofL l=dE l:=by
 obtain⟨h1,h2⟩:=ab6 l [] (by simp[Up]);obtain⟨h3,h4⟩:=gR l;exact tK h1 h3 fun x=>by rw[h4]; exact (h2 x).trans (by simp)
/- Sets of nodes as bits: plain facts. -/
def tz (x:Nat):Nat:=Lib.ctz 64 x
theorem IE {x:Nat} (h0:x≠0) (h:x<18446744073709551616):∃m,x=2 ^ tz x*(2*m+1)/\tz x<64:=by
 have:=Lib.ctzFrom_spec 64 x (by omega) h;unfold tz Lib.ctz;rw[if_neg h0];exact this
theorem Rj (k m j:Nat):(2 ^ k*(2*m+1)).testBit j=if j<k then false else if j=k then true else m.testBit (j-k-1):=by
 rw[Nat.mul_comm,Nat.testBit_mul_two_pow];by_cases h:j<k
 ·simp[h,show ¬k<=j by omega]
 ·rw[if_neg h];have hk:k<=j:=by omega
  by_cases e:j=k
  ·subst e; simp[Nat.testBit_zero]
  ·rw[if_neg e];obtain⟨d,hd⟩:∃d,j-k=d+1:=⟨j-k-1,by omega⟩;rw[hd,Nat.testBit_succ,show (2*m+1) / 2=m by omega];simp[hk]
theorem ae6 (k m j:Nat):(2 ^ k*(2*m+1)-1).testBit j=if j<k then true else if j=k then false else m.testBit (j-k-1):=by
 have e:2 ^ k*(2*m+1)-1=2 ^ (k+1)*m+(2 ^ k-1):=by
  have:0<2 ^ k:=SK k;rw[Nat.pow_succ,Nat.mul_add,Nat.mul_one,<-Nat.mul_assoc];omega
 have hp:0<2 ^ k:=SK k;rw[e,Nat.testBit_two_pow_mul_add _ (by rw[Nat.pow_succ]; omega)];by_cases h:j<k
 ·rw[if_pos (by omega),if_pos h,eY]; simp[h]
 ·rw[if_neg h];by_cases e2:j=k
  ·subst e2;rw[if_pos (by omega),if_pos rfl,eY]; simp
  ·rw[if_neg (by omega),if_neg e2,show j-(k+1)=j-k-1 by omega]
theorem Fm {x:Nat} (h0:x≠0) (h:x<18446744073709551616) (j:Nat):(x &&& (x-1)).testBit j=(x.testBit j&&decide (j≠tz x)):=by
 obtain⟨m,hm,_⟩:=IE h0 h;rw[Nat.testBit_and]
 conv=>lhs; rw[hm]
 conv=>rhs; rw[hm]
 rw[Rj,ae6];have hz:tz (2 ^ tz x*(2*m+1))=tz x:=by rw[<-hm]
 rw[hz];by_cases h:j<tz x
 ·simp[h]
 ·by_cases e:j=tz x
  ·simp[e]
  ·simp[h,e]
theorem zm {x:Nat} (h0:x≠0) (h:x<18446744073709551616):x.testBit (tz x)=true/\∀ j,j<tz x->x.testBit j=false:=by
 obtain⟨m,hm,_⟩:=IE h0 h;constructor
 ·conv=>lhs; arg 1; rw[hm]
  rw[Rj]; simp
 ·intro j hj
  conv=>lhs; arg 1; rw[hm]
  rw[Rj]; simp[hj]
theorem acd {x:Nat} (h0:x≠0):x &&& (x-1)<x:=by
 have:=Nat.and_le_right (n:=x) (m:=x-1);omega
def bZ (m:Nat):List Int:=((List.range 64).filter fun j=>m.testBit j).map fun j=>((j:Nat):Int)
theorem gk {m:Nat} {x:Int}:x∈bZ m ↔ ∃j:Nat,x=j/\j<64/\m.testBit j=true:=by
 unfold bZ;simp only[List.mem_map,List.mem_filter,List.mem_range];constructor
 ·rintro⟨j,⟨h1,h2⟩,rfl⟩; exact⟨j,rfl,h1,h2⟩
 ·rintro⟨j,rfl,h1,h2⟩; exact⟨j,⟨h1,h2⟩,rfl⟩
theorem pS (m:Nat):Up (bZ m):=by
 unfold bZ Up;refine List.Pairwise.map _ (fun a b h=>by omega) (List.Pairwise.filter _ List.pairwise_lt_range)
theorem adC:bZ 0=[]:=by simp[bZ]
theorem nt (m:Nat):(bZ m).length<=64:=by
 unfold bZ;rw[aX];exact Nat.le_trans (List.length_filter_le _ _) (by simp)
theorem Qy {m:Nat} (h0:m≠0) (h:m<18446744073709551616):bZ m=(tz m:Int)::bZ (m &&& (m-1)):=by
 obtain⟨b1,b2⟩:=zm h0 h;obtain⟨_,_,bE⟩:=IE h0 h;refine tK (pS m) (bK.2 ⟨fun x hx=>?_,pS _⟩) fun x=>?_
 ·obtain⟨j,rfl,h1,h2⟩:=gk.1 hx;rw[Fm h0 h,ae,decide_eq_true_eq] at h2;have:¬j<tz m:=fun k=>by rw[b2 j k] at h2; simp at h2
  omega
 ·rw[aO,gk,gk];constructor
  ·rintro⟨j,rfl,h1,h2⟩;by_cases e:j=tz m
   ·left; rw[e]
   ·right; exact⟨j,rfl,h1,by rw[Fm h0 h,h2]; simp[e]⟩
  ·rintro (rfl|⟨j,rfl,h1,h2⟩)
   ·exact⟨tz m,rfl,bE,b1⟩
   ·rw[Fm h0 h,ae] at h2;exact⟨j,rfl,h1,h2.1⟩
def mskF (l:List Int) (m:Nat):Nat:=l.foldl (fun m v=>m ||| 2 ^ v.toNat) m
def ze (l:List Int):Nat:=mskF l 0
theorem Uh:∀(l:List Int) (m j:Nat),(∀v∈l,0<=v)->(mskF l m).testBit j=(m.testBit j||decide ((j:Int)∈l))
 |[],m,j,_=>by simp[mskF]
 |v::r,m,j,h=>by
   have ih:=Uh r (m ||| 2 ^ v.toNat) j (fun w hw=>h w (by simp[hw]));have hv:=h v (by simp);unfold mskF at ih ⊢;rw[dV,ih,Nat.testBit_or,Nat.testBit_two_pow];have e:decide (v.toNat=j)=decide ((j:Int)=v):=by rw[vJ,decide_eq_true_eq,decide_eq_true_eq]; omega
   rw[e,Bool.or_assoc];congr 1;rw[vJ]; simp
theorem pF {l:List Int} {j:Nat} (h:∀v∈l,0<=v):(ze l).testBit j=decide ((j:Int)∈l):=by
 unfold ze; rw[Uh l 0 j h]; simp
/-! Operations of uint64 -/
theorem ajS {n:Nat} (h:n<18446744073709551616):IntKind.u64.wrap (n:Int)=(n:Int):=by rw[IntKind.wrap_u64]; omega
theorem shlU {v:Int} (h0:0<=v) (h1:v<64):IntKind.u64.wrap (1*2 ^ (min v.toNat 64))=((2 ^ v.toNat:Nat):Int):=by
 have e:min v.toNat 64=v.toNat:=by omega
 have h2:2 ^ v.toNat<2 ^ 64:=Nat.pow_lt_pow_right (by decide) (by omega);rw[e,Int.one_mul,show ((2:Int) ^ v.toNat)=((2 ^ v.toNat:Nat):Int) by simp,ajS h2]
theorem decU {m:Nat} (h0:m≠0) (h:m<18446744073709551616):IntKind.u64.wrap ((m:Int)-1)=((m-1:Nat):Int):=by
 rw[show (m:Int)-1=((m-1:Nat):Int) by omega,ajS (by omega)]
/- Edges and graphs: plain facts. -/
abbrev Ed:=Int × Int
def dY (e:Ed):AV:=.agg [.int .i64 e.1,.int .i64 e.2]
def fe (l:List Ed):List AV:=l.map dY
theorem aN (l:List Ed):(fe l).length=l.length:=aX _
theorem bI (l:List Ed) (i:Nat):(fe l)[i]?=(l[i]?).map dY:=List.getElem?_map
theorem cV (l:List Ed) (i:Nat) (h:i<(fe l).length):(fe l)[i]=dY (l[i]'(by simpa[fe] using h)):=by simp[fe]
theorem Qf (l:List Ed) (u v:Int):fe l++[.agg [.int .i64 u,.int .i64 v]]=fe (l++[(u,v)]):=by simp[fe,dY]
theorem Fl (l:List Ed) (n:Nat):(fe l).take n=fe (l.take n):=by simp[fe]
theorem aM (l:List Ed):bF (aC (fe l))=true:=by
 induction l with
 |nil=>rfl
 |cons x r ih=>simp only[fe,eQ,aC,dY,AV.cells,List.cons_append,oV,bF,AV.leaf,WE] at ih ⊢; exact ih
theorem aR (l:List Ed):iB (fe l)=true:=by
 induction l with
 |nil=>rfl
 |cons x r ih=>simp only[fe,eQ,dY,iB,clean,WE,Bool.and_true] at ih ⊢; exact ih
theorem aK (l:List Int):iB (ints l)=true:=by
 induction l with
 |nil=>rfl
 |cons x r ih=>simp only[ints,eQ,iB,clean] at ih ⊢; rw[ih]; rfl
def LR (a b:Ed):Prop:=a.1<b.1\/a.1=b.1/\a.2<b.2
instance (a b:Ed):Decidable (LR a b):=by unfold LR; infer_instance
theorem ac7 {a b c:Ed} (h:LR a b) (k:LR b c):LR a c:=by unfold LR at *; omega
theorem aiF {a:Ed}:¬LR a a:=by unfold LR; omega
def UpE (l:List Ed):Prop:=l.Pairwise LR
def M7:Option Ed->Ed->Prop
 |none,_=>False
 |some q,e=>¬LR q e
instance:∀p e,Decidable (M7 p e)
 |none,_=>instDecidableFalse
 |some q,e=>inferInstanceAs (Decidable (¬LR q e))
def fO (n:Int):Option Ed->List Ed->Int
 |_,[]=>0
 |p,e::r=>if e.1<0\/e.2<=e.1\/n<=e.2 then 6 else if M7 p e then 5 else fO n (some e) r
def chkG (n:Int) (l:List Ed):Int:=if n<0\/64<n then 1 else fO n none l
theorem MS (n:Int):∀{l:List Ed} {p:Option Ed},fO n p l=0 ↔ UpE l/\(∀e∈l,0<=e.1/\e.1<e.2/\e.2<n)/\∀ q,p=some q->∀e∈l,LR q e
 |[],p=>by simp[fO,UpE]
 |e::r,p=>by
   have ih:=MS n (l:=r) (p:=some e);unfold fO;by_cases h1:e.1<0\/e.2<=e.1\/n<=e.2
   ·rw[if_pos h1];constructor
    ·intro h; cases h
    ·rintro⟨_,h,_⟩; have:=h e (by simp); omega
   ·rw[if_neg h1];cases p with
    |none=>
      rw[if_neg (show ¬M7 none e from fun h=>h),ih];simp only[UpE,bK,aO,forall_eq_or_imp];constructor
      ·rintro⟨a,b,c⟩; exact⟨⟨fun z hz=>c e rfl z hz,a⟩,⟨by omega,b⟩,fun q hq=>by cases hq⟩
      ·rintro⟨⟨a,b⟩,⟨c,d⟩,f⟩; exact⟨b,d,fun q hq=>by cases hq; exact a⟩
    |some q=>
      by_cases h2:LR q e
      ·rw[if_neg (show ¬M7 (some q) e from fun h=>h h2),ih];simp only[UpE,bK,aO,forall_eq_or_imp];constructor
       ·rintro⟨a,b,c⟩;exact⟨⟨fun z hz=>c e rfl z hz,a⟩,⟨by omega,b⟩,fun q' hq=>by cases hq; exact⟨h2,fun z hz=>ac7 h2 (c e rfl z hz)⟩⟩
       ·rintro⟨⟨a,b⟩,⟨c,d⟩,f⟩; exact⟨b,d,fun q hq=>by cases hq; exact a⟩
      ·rw[if_pos (show M7 (some q) e from h2)];constructor
       ·intro h; cases h
       ·rintro⟨_,_,h⟩; exact absurd (h q rfl e (by simp)) h2
def uQ (n:Int) (l:List Ed):Prop:=(0<=n/\n<=64)/\UpE l/\∀ e∈l,0<=e.1/\e.1<e.2/\e.2<n
theorem tE {n:Int} {l:List Ed}:chkG n l=0 ↔ uQ n l:=by
 unfold chkG uQ;by_cases h:n<0\/64<n
 ·rw[if_pos h]; constructor
  ·intro h; cases h
  ·rintro⟨h2,_⟩; omega
 ·rw[if_neg h,MS];constructor
  ·rintro⟨a,b,_⟩; exact⟨by omega,a,b⟩
  ·rintro⟨_,a,b⟩; exact⟨a,b,fun q hq=>by cases hq⟩
end Go.Bm
