/- A plain sort of ints; the library's sort as a function that writes into the slice it is given. -/
import Derived.Lib.TrailingZeros
import Derived.Laws.BitsAllLaws
import Derived.Test.YtpimmjklbakckaaGreatDoorRunX
open Bool renaming and_eq_true → ae, eq_iff_iff → yO, true_and → Pw
open List renaming foldl_cons → pd, length_map → cN, map_cons → eB, mem_cons → aO, nil_append → Aq, pairwise_cons → bu
open Nat renaming testBit_two_pow_sub_one → dX, two_pow_pos → LI
open Option.some renaming injEq → af
namespace Go.Am
def j8:List AV->Option (List Int)
 |[]=>some []
 |.int .i64 n::r=>match j8 r with
   |some l=>some (n::l)
   |none=>none
 |_=>none
theorem xZ:∀{cs:List AV} {zs:List Int},j8 cs=some zs->cs=zs.map (AV.int .i64)
 |[],zs,h=>by simp[j8] at h; subst h; rfl
 |c::r,zs,h=>by
   unfold j8 at h;split at h
   ·rename_i heq; cases heq
   ·rename_i n r' heq;cases heq;split at h
    ·rename_i l hl;simp at h;subst h;rw[xZ hl];rfl
    ·cases h
   ·cases h
theorem sF (zs:List Int):j8 (zs.map (AV.int .i64))=some zs:=by
 induction zs with
 |nil=>rfl
 |cons z r ih=>simp[j8,ih]
end Go.Am
namespace Go.Bm
open Go.Am
def NR (x:Int):List Int->List Int
 |[]=>[x]
 |y::r=>if x<=y then x::y::r else y::NR x r
def il:List Int->List Int
 |[]=>[]
 |x::r=>NR x (il r)
theorem Cg (x:Int):∀l,(NR x l).Perm (x::l)
 |[]=>.refl _
 |y::r=>by
   unfold NR;split
   ·exact .refl _
   ·exact ((Cg x r).cons y).trans (List.Perm.swap x y r)
theorem nE:∀l,(il l).Perm l
 |[]=>.refl _
 |x::r=>(Cg x (il r)).trans ((nE r).cons x)
theorem Zr {x z:Int} {l:List Int}:z∈NR x l ↔ z=x\/z∈l:=by
 rw[(Cg x l).mem_iff]; simp
theorem NQ (x:Int):∀{l:List Int},l.Pairwise (·<=·)->(NR x l).Pairwise (·<=·)
 |[],_=>by simp[NR]
 |y::r,h=>by
   obtain⟨h1,h2⟩:=bu.1 h;unfold NR;split
   ·rename_i hle;refine bu.2 ⟨fun z hz=>?_,h⟩;rcases aO.1 hz with e|e
    ·omega
    ·have:=h1 z e; omega
   ·rename_i hle;refine bu.2 ⟨fun z hz=>?_,NQ x h2⟩;rcases Zr.1 hz with e|e
    ·omega
    ·exact h1 z e
theorem xY:∀l,(il l).Pairwise (·<=·)
 |[]=>.nil
 |x::r=>NQ x (xY r)
theorem jT (l:List Int):(il l).length=l.length:=(nE l).length_eq
theorem DK:∀{l m:List Int},l.Perm m->l.Pairwise (·<=·)->m.Pairwise (·<=·)->l=m
 |[],m,h,_,_=>(List.Perm.nil_eq h)
 |x::r,[],h,_,_=>by have:=h.length_eq; simp at this
 |x::r,y::s,h,h1,h2=>by
   obtain⟨a1,a2⟩:=bu.1 h1;obtain⟨b1,b2⟩:=bu.1 h2;have hx:x∈y::s:=h.mem_iff.1 (by simp);have hy:y∈x::r:=h.mem_iff.2 (by simp)
   have e:x=y:=by
    rcases aO.1 hx with e|e
    ·exact e
    ·rcases aO.1 hy with e2|e2
     ·exact e2.symm
     ·have:=a1 y e2; have:=b1 x e; omega
   subst e;rw[DK (List.Perm.cons_inv h) a2 b2]
def PJ (k:Nat) (xs es:List AV):Option (List AV × Option Nat):=
 match k,es with
 |1,[]=>if xs.length<=mN then match j8 xs with
   |some zs=>some ((il zs).map (AV.int .i64),none)
   |none=>none
   else none
 |_,_=>none
/- Plain facts on strictly rising lists of ints: what sort and compact give, and what a merge gives. -/
set_option linter.unusedVariables false
set_option linter.unusedSimpArgs false
def Up (l:List Int):Prop:=l.Pairwise (·<·)
def dd:List Int->List Int
 |[]=>[]
 |[x]=>[x]
 |x::y::r=>if x=y then dd (y::r) else x::dd (y::r)
theorem QY:∀(l:List Int) (z:Int),z∈dd l ↔ z∈l
 |[],z=>by simp[dd]
 |[x],z=>by simp[dd]
 |x::y::r,z=>by
   have ih:=QY (y::r) z;unfold dd;split
   ·rename_i e; subst e; rw[ih]; simp
   ·rw[aO,ih,aO (a:=z) (b:=x)]
theorem QZ:∀l:List Int,(dd l).length<=l.length
 |[]=>by simp[dd]
 |[x]=>by simp[dd]
 |x::y::r=>by
   have ih:=QZ (y::r);unfold dd;split
   ·simp at *; omega
   ·simp at *; omega
theorem adS:∀{l:List Int},l.Pairwise (·<=·)->Up (dd l)
 |[],_=>by simp[dd,Up]
 |[x],_=>by simp[dd,Up]
 |x::y::r,h=>by
   obtain⟨h1,h2⟩:=bu.1 h;have ih:=adS h2;unfold dd;split
   ·exact ih
   ·rename_i tN;refine bu.2 ⟨fun z hz=>?_,ih⟩;have hz:=(QY _ _).1 hz;have a:=h1 y (by simp);have b:=(bu.1 h2).1;rcases aO.1 hz with e|e
    ·subst e; omega
    ·have:=b z e; omega
def dj (zs:List Int):List Int:=dd (il zs)
theorem gh (zs:List Int):Up (dj zs)/\∀ x,x∈dj zs ↔ x∈zs:=
 ⟨adS (xY zs),fun x=>(QY _ _).trans (nE zs).mem_iff⟩
theorem kX (zs:List Int):(dj zs).length<=zs.length:=by
 have:=QZ (il zs);rw[jT] at this;exact this
theorem tR {a b:List Int} (ha:Up a) (hb:Up b) (h:∀x,x∈a ↔ x∈b):a=b:=by
 induction a generalizing b with
 |nil=>
   cases b with
   |nil=>rfl
   |cons y s=>exact absurd ((h y).mpr (by simp)) (by simp)
 |cons x r ih=>
   cases b with
   |nil=>exact absurd ((h x).mp (by simp)) (by simp)
   |cons y s=>
     unfold Up at ha hb;rw[bu] at ha hb
     have hxy:x=y:=by
      have h1:=(h x).mp (by simp);have h2:=(h y).mpr (by simp);simp only[aO] at h1 h2;rcases h1 with e|e
      ·exact e
      ·rcases h2 with e2|e2
       ·exact e2.symm
       ·have:=ha.1 _ e2;have:=hb.1 _ e;omega
     subst hxy;congr 1;refine ih ha.2 hb.2 fun z=>?_;have hz:=h z;simp only[aO] at hz;constructor
     ·intro hr;rcases hz.mp (.inr hr) with e|e
      ·have:=ha.1 _ hr; omega
      ·exact e
     ·intro hr;rcases hz.mpr (.inr hr) with e|e
      ·have:=hb.1 _ hr; omega
      ·exact e
def qO (c:Bool) (x:Int) (m:List Int):List Int:=if c=true then x::m else m
def vM (keep:Bool->Bool->Bool):List Int->List Int->List Int
 |[],[]=>[]
 |x::r,[]=>qO (keep true false) x (vM keep r [])
 |[],y::s=>qO (keep false true) y (vM keep [] s)
 |x::r,y::s=>
   if x<y then qO (keep true false) x (vM keep r (y::s))
   else if y<x then qO (keep false true) y (vM keep (x::r) s)
   else qO (keep true true) x (vM keep r s)
termination_by a b=>a.length+b.length
theorem wP (keep:Bool->Bool->Bool) (z:Int) (m a' b' a b:List Int) (pa pb:Bool) (h1:Up m) (h2:∀x,x∈m ↔ ((x∈a'\/x∈b')/\keep (decide (x∈a')) (decide (x∈b'))=true)) (bQ:∀x,x∈a'\/x∈b'->z<x)
  (hp:pa=true\/pb=true) (ha:∀x,x∈a ↔ ((x=z/\pa=true)\/x∈a')) (hb:∀x,x∈b ↔ ((x=z/\pb=true)\/x∈b')) {o:List Int} (ho:o=if keep pa pb then z::m else m) :
  Up o/\∀ x,x∈o ↔ ((x∈a\/x∈b)/\keep (decide (x∈a)) (decide (x∈b))=true):=by
 subst ho;have hza:z∉a':=fun h=>Int.lt_irrefl _ (bQ z (.inl h));have hzb:z∉b':=fun h=>Int.lt_irrefl _ (bQ z (.inr h));have hzm:z∉m:=fun h=>((h2 z).mp h).1.elim hza hzb;refine⟨?_,fun x=>?_⟩
 ·split
  ·unfold Up;rw[bu];exact⟨fun y hy=>bQ y ((h2 y).mp hy).1,h1⟩
  ·exact h1
 ·by_cases hx:x=z
  ·subst hx;have da:decide (x∈a)=pa:=by cases pa<;>simp[ha,hza]
   have db:decide (x∈b)=pb:=by cases pb<;>simp[hb,hzb]
   have hor:x∈a\/x∈b:=by
    rcases hp with h|h
    ·left; simp[ha,h]
    ·right; simp[hb,h]
   rw[da,db];simp only[hor,true_and];split
   ·rename_i hk;simp[hk]
   ·rename_i hk;simp[hk,hzm]
  ·have da:x∈a ↔ x∈a':=by simp[ha,hx]
   have db:x∈b ↔ x∈b':=by simp[hb,hx]
   simp only[da,db];rw[<-h2];split
   ·simp[hx]
   ·rfl
theorem M0 (keep:Bool->Bool->Bool) (a b:List Int) (ha:Up a) (hb:Up b):Up (vM keep a b)/\∀ x,x∈vM keep a b ↔ ((x∈a\/x∈b)/\keep (decide (x∈a)) (decide (x∈b))=true):=by
 induction a,b using vM.induct with
 |case1=>simp[vM,Up]
 |case2 x r ih=>
   unfold Up at ha;rw[bu] at ha;obtain⟨h1,h2⟩:=ih ha.2 hb;exact wP keep x (vM keep r []) r [] (x::r) [] true false h1 h2 (fun y hy=>hy.elim (ha.1 y) (fun h=>by simp at h)) (.inl rfl) (fun y=>by simp) (fun y=>by simp) (by rw[vM]; rfl)
 |case3 y s ih=>
   unfold Up at hb;rw[bu] at hb;obtain⟨h1,h2⟩:=ih ha hb.2;exact wP keep y (vM keep [] s) [] s [] (y::s) false true h1 h2 (fun x hx=>hx.elim (fun h=>by simp at h) (hb.1 x)) (.inr rfl) (fun y=>by simp) (fun y=>by simp) (by rw[vM]; rfl)
 |case4 x r y s bQ ih=>
   have Xf:=ha;have iV:=hb;unfold Up at ha hb;rw[bu] at ha hb;obtain⟨h1,h2⟩:=ih ha.2 iV
   exact wP keep x (vM keep r (y::s)) r (y::s) (x::r) (y::s) true false h1 h2 (fun z hz=>by
    rcases hz with hz|hz
    ·exact ha.1 z hz
    ·rcases aO.mp hz with e|e
     ·omega
     ·have:=hb.1 z e; omega) (.inl rfl) (fun z=>by simp) (fun z=>by simp) (by rw[vM,if_pos bQ]; rfl)
 |case5 x r y s hn bQ ih=>
   have Xf:=ha;have iV:=hb;unfold Up at ha hb;rw[bu] at ha hb;obtain⟨h1,h2⟩:=ih Xf hb.2
   exact wP keep y (vM keep (x::r) s) (x::r) s (x::r) (y::s) false true h1 h2 (fun z hz=>by
    rcases hz with hz|hz
    ·rcases aO.mp hz with e|e
     ·omega
     ·have:=ha.1 z e; omega
    ·exact hb.1 z hz) (.inr rfl) (fun z=>by simp) (fun z=>by simp) (by rw[vM,if_neg hn,if_pos bQ]; rfl)
 |case6 x r y s hn hn2 ih=>
   obtain rfl:x=y:=by omega
   unfold Up at ha hb;rw[bu] at ha hb;obtain⟨h1,h2⟩:=ih ha.2 hb.2
   exact wP keep x (vM keep r s) r s (x::r) (x::s) true true h1 h2 (fun z hz=>by
    rcases hz with hz|hz
    ·exact ha.1 z hz
    ·exact hb.1 z hz) (.inl rfl) (fun z=>by simp) (fun z=>by simp) (by rw[vM,if_neg hn,if_neg hn2]; rfl)
def uni (a b:List Int):List Int:=vM (fun _ _=>true) (dj a) (dj b)
def meet (a b:List Int):List Int:=vM (fun p r=>p&&r) (dj a) (dj b)
def minus (a b:List Int):List Int:=vM (fun _ r=>!r) (dj a) (dj b)
theorem tw (a b:List Int):Up (meet a b)/\∀ x,x∈meet a b ↔ x∈a/\x∈b:=by
 obtain⟨a1,a2⟩:=gh a;obtain⟨b1,b2⟩:=gh b;obtain⟨h1,h2⟩:=M0 (fun p r=>p&&r) _ _ a1 b1
 exact ⟨h1, fun x => by rw [meet, h2]; simp only [a2, b2, ae, decide_eq_true_eq]; constructor
                        ·exact fun h=>h.2
                        ·exact fun h=>⟨.inl h.1,h⟩⟩
theorem rD (a b:List Int):Up (minus a b)/\∀ x,x∈minus a b ↔ x∈a/\x∉b:=by
 obtain⟨a1,a2⟩:=gh a;obtain⟨b1,b2⟩:=gh b;obtain⟨h1,h2⟩:=M0 (fun _ r=>!r) _ _ a1 b1
 exact⟨h1,fun x=>by
  rw[minus,h2];simp only[a2,b2];by_cases hb:x∈b<;>simp[hb]⟩
def Ww:List AV->Heap->Option (AV × Heap)
 |[.list 1 []],[]=>some (.list 1 [],[])
 |_,_=>none
def Q0 (k:Nat) (xs es:List AV):Option (List AV × Option Nat):=
 match k,es with
 |1,[]=>if xs.length<=mN then match j8 xs with
   |some zs=>some ((dd zs++List.replicate (zs.length-(dd zs).length) 0).map (AV.int .i64),some (dd zs).length)
   |none=>none
   else none
 |_,_=>none
/- What functions on lists of ints answer, in plain terms. -/
def iI:List Int->List Int->Int
 |[],[]=>0
 |[],_::_=>-1
 |_::_,[]=>1
 |x::r,y::s=>if y<x then 1 else if x<y then -1 else iI r s
theorem JK:∀{a b:List Int},iI a b=0 ↔ a=b
 |[],[]=>by simp[iI]
 |[],_::_=>by simp[iI]
 |_::_,[]=>by simp[iI]
 |x::r,y::s=>by
   have ih:=JK (a:=r) (b:=s);unfold iI;split
   ·rename_i h; simp; intro e; omega
   ·split
    ·rename_i h; simp; intro e; omega
    ·rw[ih]; simp; intro _; omega
def af7 (n:Int):Int->List Int->Bool
 |_,[]=>true
 |p,x::r=>decide (0<=x)&&(decide (x<n)&&(decide (p<x)&&af7 n x r))
def prev (l:List Int) (i:Nat):Int:=if i=0 then -1 else l.getD (i-1) 0
def rf (x:Int):List Int->List Int
 |[]=>[x]
 |y::r=>if y<x then y::rf x r else if y=x then y::r else x::y::r
theorem MG (x:Int):∀l,(rf x l).length<=l.length+1
 |[]=>by simp[rf]
 |y::r=>by
   have:=MG x r;unfold rf;split
   ·simp; omega
   ·split<;>simp
theorem FM (x z:Int):∀l,z∈rf x l ↔ z=x\/z∈l
 |[]=>by simp[rf]
 |y::r=>by
   have ih:=FM x z r;unfold rf;split
   ·simp only[aO,ih]; constructor<;>(intro h; rcases h with h|h|h<;>simp[h])
   ·split
    ·rename_i e; subst e; simp
    ·simp
theorem Tb (x:Int):∀{l},Up l->Up (rf x l)
 |[],_=>by simp[rf,Up]
 |y::r,h=>by
   obtain⟨h1,h2⟩:=bu.1 h;unfold rf;split
   ·rename_i bQ;refine bu.2 ⟨fun z hz=>?_,Tb x h2⟩;rcases (FM x z r).1 hz with e|e
    ·omega
    ·exact h1 z e
   ·split
    ·exact h
    ·refine bu.2 ⟨fun z hz=>?_,h⟩;rcases aO.1 hz with e|e
     ·omega
     ·have:=h1 z e; omega
def pos (x:Int):List Int->Nat
 |[]=>0
 |y::r=>if y<x then pos x r+1 else 0
theorem Ya (x:Int):∀l,pos x l<=l.length
 |[]=>by simp[pos]
 |y::r=>by have:=Ya x r; unfold pos; split<;>simp<;>omega
theorem MF (x:Int):∀l,rf x l=if l[pos x l]?=some x then l else l.take (pos x l)++x::l.drop (pos x l)
 |[]=>by simp[rf,pos]
 |y::r=>by
   have ih:=MF x r;unfold rf pos;split
   ·rw[ih];simp only[List.getElem?_cons_succ,List.take_succ_cons,List.drop_succ_cons];split<;>simp
   ·simp only[List.getElem?_cons_zero,af,List.take_zero,List.drop_zero,Aq]
def ofL (l:List Int):List Int:=l.foldl (fun o x=>rf x o) []
theorem Uq:∀(l o:List Int),Up o->Up (l.foldl (fun o x=>rf x o) o)/\∀ z,z∈l.foldl (fun o x=>rf x o) o ↔ z∈o\/z∈l
 |[],o,h=>⟨h,fun z=>by simp⟩
 |x::r,o,h=>by
   obtain⟨h1,h2⟩:=Uq r (rf x o) (Tb x h);refine⟨h1,fun z=>?_⟩;rw[pd,h2,FM];simp only[aO];constructor
   ·rintro ((h|h)|h)<;>simp[h]
   ·rintro (h|h|h)<;>simp[h]
theorem afb (l:List Int):ofL l=dj l:=by
 obtain⟨h1,h2⟩:=Uq l [] (by simp[Up]);obtain⟨h3,h4⟩:=gh l;exact tR h1 h3 fun x=>by rw[h4]; exact (h2 x).trans (by simp)
/- Sets of nodes as bits: plain facts. -/
def tz (x:Nat):Nat:=Lib.ctz 64 x
theorem D6 {x:Nat} (h0:x≠0) (h:x<18446744073709551616):∃m,x=2 ^ tz x*(2*m+1)/\tz x<64:=by
 have:=Lib.ctzFrom_spec 64 x (by omega) h;unfold tz Lib.ctz;rw[if_neg h0];exact this
theorem Kp (k m j:Nat):(2 ^ k*(2*m+1)).testBit j=if j<k then false else if j=k then true else m.testBit (j-k-1):=by
 rw[Nat.mul_comm,Nat.testBit_mul_two_pow];by_cases h:j<k
 ·simp[h,show ¬k<=j by omega]
 ·rw[if_neg h];have hk:k<=j:=by omega
  by_cases e:j=k
  ·subst e; simp[Nat.testBit_zero]
  ·rw[if_neg e];obtain⟨d,hd⟩:∃d,j-k=d+1:=⟨j-k-1,by omega⟩;rw[hd,Nat.testBit_succ,show (2*m+1) / 2=m by omega];simp[hk]
theorem X8 (k m j:Nat):(2 ^ k*(2*m+1)-1).testBit j=if j<k then true else if j=k then false else m.testBit (j-k-1):=by
 have e:2 ^ k*(2*m+1)-1=2 ^ (k+1)*m+(2 ^ k-1):=by
  have:0<2 ^ k:=LI k;rw[Nat.pow_succ,Nat.mul_add,Nat.mul_one,<-Nat.mul_assoc];omega
 have hp:0<2 ^ k:=LI k;rw[e,Nat.testBit_two_pow_mul_add _ (by rw[Nat.pow_succ]; omega)];by_cases h:j<k
 ·rw[if_pos (by omega),if_pos h,dX]; simp[h]
 ·rw[if_neg h];by_cases e2:j=k
  ·subst e2;rw[if_pos (by omega),if_pos rfl,dX]; simp
  ·rw[if_neg (by omega),if_neg e2,show j-(k+1)=j-k-1 by omega]
theorem Bn {x:Nat} (h0:x≠0) (h:x<18446744073709551616) (j:Nat):(x &&& (x-1)).testBit j=(x.testBit j&&decide (j≠tz x)):=by
 obtain⟨m,hm,_⟩:=D6 h0 h;rw[Nat.testBit_and]
 conv=>lhs; rw[hm]
 conv=>rhs; rw[hm]
 rw[Kp,X8];have hz:tz (2 ^ tz x*(2*m+1))=tz x:=by rw[<-hm]
 rw[hz];by_cases h:j<tz x
 ·simp[h]
 ·by_cases e:j=tz x
  ·simp[e]
  ·simp[h,e]
theorem zd {x:Nat} (h0:x≠0) (h:x<18446744073709551616):x.testBit (tz x)=true/\∀ j,j<tz x->x.testBit j=false:=by
 obtain⟨m,hm,_⟩:=D6 h0 h;constructor
 ·conv=>lhs; arg 1; rw[hm]
  rw[Kp]; simp
 ·intro j hj
  conv=>lhs; arg 1; rw[hm]
  rw[Kp]; simp[hj]
theorem Uw {x:Nat} (h0:x≠0):x &&& (x-1)<x:=by
 have:=Nat.and_le_right (n:=x) (m:=x-1);omega
def cz (m:Nat):List Int:=((List.range 64).filter fun j=>m.testBit j).map fun j=>((j:Nat):Int)
theorem ff {m:Nat} {x:Int}:x∈cz m ↔ ∃j:Nat,x=j/\j<64/\m.testBit j=true:=by
 unfold cz;simp only[List.mem_map,List.mem_filter,List.mem_range];constructor
 ·rintro⟨j,⟨h1,h2⟩,rfl⟩; exact⟨j,rfl,h1,h2⟩
 ·rintro⟨j,rfl,h1,h2⟩; exact⟨j,⟨h1,h2⟩,rfl⟩
theorem qS (m:Nat):Up (cz m):=by
 unfold cz Up;refine List.Pairwise.map _ (fun a b h=>by omega) (List.Pairwise.filter _ List.pairwise_lt_range)
theorem WX:cz 0=[]:=by simp[cz]
theorem tJ (m:Nat):(cz m).length<=64:=by
 unfold cz;rw[cN];exact Nat.le_trans (List.length_filter_le _ _) (by simp)
theorem JU {m:Nat} (h0:m≠0) (h:m<18446744073709551616):cz m=(tz m:Int)::cz (m &&& (m-1)):=by
 obtain⟨b1,b2⟩:=zd h0 h;obtain⟨_,_,bQ⟩:=D6 h0 h;refine tR (qS m) (bu.2 ⟨fun x hx=>?_,qS _⟩) fun x=>?_
 ·obtain⟨j,rfl,h1,h2⟩:=ff.1 hx;rw[Bn h0 h,ae,decide_eq_true_eq] at h2;have:¬j<tz m:=fun k=>by rw[b2 j k] at h2; simp at h2
  omega
 ·rw[aO,ff,ff];constructor
  ·rintro⟨j,rfl,h1,h2⟩;by_cases e:j=tz m
   ·left; rw[e]
   ·right; exact⟨j,rfl,h1,by rw[Bn h0 h,h2]; simp[e]⟩
  ·rintro (rfl|⟨j,rfl,h1,h2⟩)
   ·exact⟨tz m,rfl,bQ,b1⟩
   ·rw[Bn h0 h,ae] at h2;exact⟨j,rfl,h1,h2.1⟩
def mskF (l:List Int) (m:Nat):Nat:=l.foldl (fun m v=>m ||| 2 ^ v.toNat) m
def msk (l:List Int):Nat:=mskF l 0
theorem MZ:∀(l:List Int) (m j:Nat),(∀v∈l,0<=v)->(mskF l m).testBit j=(m.testBit j||decide ((j:Int)∈l))
 |[],m,j,_=>by simp[mskF]
 |v::r,m,j,h=>by
   have ih:=MZ r (m ||| 2 ^ v.toNat) j (fun w hw=>h w (by simp[hw]));have hv:=h v (by simp);unfold mskF at ih ⊢;rw[pd,ih,Nat.testBit_or,Nat.testBit_two_pow];have e:decide (v.toNat=j)=decide ((j:Int)=v):=by rw[yO,decide_eq_true_eq,decide_eq_true_eq]; omega
   rw[e,Bool.or_assoc];congr 1;rw[yO]; simp
theorem Ef {l:List Int} {j:Nat} (h:∀v∈l,0<=v):(msk l).testBit j=decide ((j:Int)∈l):=by
 unfold msk; rw[MZ l 0 j h]; simp
/-! Operations of uint64 -/
theorem acM {n:Nat} (h:n<18446744073709551616):IntKind.u64.wrap (n:Int)=(n:Int):=by rw[IntKind.wrap_u64]; omega
theorem shlU {v:Int} (h0:0<=v) (h1:v<64):IntKind.u64.wrap (1*2 ^ (min v.toNat 64))=((2 ^ v.toNat:Nat):Int):=by
 have e:min v.toNat 64=v.toNat:=by omega
 have h2:2 ^ v.toNat<2 ^ 64:=Nat.pow_lt_pow_right (by decide) (by omega);rw[e,Int.one_mul,show ((2:Int) ^ v.toNat)=((2 ^ v.toNat:Nat):Int) by simp,acM h2]
theorem decU {m:Nat} (h0:m≠0) (h:m<18446744073709551616):IntKind.u64.wrap ((m:Int)-1)=((m-1:Nat):Int):=by
 rw[show (m:Int)-1=((m-1:Nat):Int) by omega,acM (by omega)]
/- Edges and graphs: plain facts. -/
abbrev Ed:=Int × Int
def dR (e:Ed):AV:=.agg [.int .i64 e.1,.int .i64 e.2]
def fi (l:List Ed):List AV:=l.map dR
theorem aS (l:List Ed):(fi l).length=l.length:=cN _
theorem bG (l:List Ed) (i:Nat):(fi l)[i]?=(l[i]?).map dR:=List.getElem?_map
theorem cU (l:List Ed) (i:Nat) (h:i<(fi l).length):(fi l)[i]=dR (l[i]'(by simpa[fi] using h)):=by simp[fi]
theorem WC (l:List Ed) (u v:Int):fi l++[.agg [.int .i64 u,.int .i64 v]]=fi (l++[(u,v)]):=by simp[fi,dR]
theorem GQ (l:List Ed) (n:Nat):(fi l).take n=fi (l.take n):=by simp[fi]
theorem aM (l:List Ed):bq (aA (fi l))=true:=by
 induction l with
 |nil=>rfl
 |cons x r ih=>simp only[fi,eB,aA,dR,AV.cells,List.cons_append,Aq,bq,AV.leaf,Pw] at ih ⊢; exact ih
theorem aV (l:List Ed):gC (fi l)=true:=by
 induction l with
 |nil=>rfl
 |cons x r ih=>simp only[fi,eB,dR,gC,clean,Pw,Bool.and_true] at ih ⊢; exact ih
theorem aL (l:List Int):gC (ints l)=true:=by
 induction l with
 |nil=>rfl
 |cons x r ih=>simp only[ints,eB,gC,clean] at ih ⊢; rw[ih]; rfl
def Gj (a b:Ed):Prop:=a.1<b.1\/a.1=b.1/\a.2<b.2
instance (a b:Ed):Decidable (Gj a b):=by unfold Gj; infer_instance
theorem Wb {a b c:Ed} (h:Gj a b) (k:Gj b c):Gj a c:=by unfold Gj at *; omega
theorem abC {a:Ed}:¬Gj a a:=by unfold Gj; omega
def UpE (l:List Ed):Prop:=l.Pairwise Gj
def putE (x:Ed):List Ed->List Ed
 |[]=>[x]
 |y::r=>if Gj y x then y::putE x r else if y=x then y::r else x::y::r
def posE (x:Ed):List Ed->Nat
 |[]=>0
 |y::r=>if Gj y x then posE x r+1 else 0
def nrmE (u v:Int):Ed:=(if v<u then v else u,if u<v then v else u)
def ofE (l:List Ed) (o:List Ed):List Ed:=l.foldl (fun o e=>putE (nrmE e.1 e.2) o) o
def He:Option Ed->Ed->Prop
 |none,_=>False
 |some q,e=>¬Gj q e
instance:∀p e,Decidable (He p e)
 |none,_=>instDecidableFalse
 |some q,e=>inferInstanceAs (Decidable (¬Gj q e))
def fc (n:Int):Option Ed->List Ed->Int
 |_,[]=>0
 |p,e::r=>if e.1<0\/e.2<=e.1\/n<=e.2 then 6 else if He p e then 5 else fc n (some e) r
def WQ (n:Int) (l:List Ed):Int:=if n<0\/64<n then 1 else fc n none l
theorem G2 (n:Int):∀{l:List Ed} {p:Option Ed},fc n p l=0 ↔ UpE l/\(∀e∈l,0<=e.1/\e.1<e.2/\e.2<n)/\∀ q,p=some q->∀e∈l,Gj q e
 |[],p=>by simp[fc,UpE]
 |e::r,p=>by
   have ih:=G2 n (l:=r) (p:=some e);unfold fc;by_cases h1:e.1<0\/e.2<=e.1\/n<=e.2
   ·rw[if_pos h1];constructor
    ·intro h; cases h
    ·rintro⟨_,h,_⟩; have:=h e (by simp); omega
   ·rw[if_neg h1];cases p with
    |none=>
      rw[if_neg (show ¬He none e from fun h=>h),ih];simp only[UpE,bu,aO,forall_eq_or_imp];constructor
      ·rintro⟨a,b,c⟩; exact⟨⟨fun z hz=>c e rfl z hz,a⟩,⟨by omega,b⟩,fun q hq=>by cases hq⟩
      ·rintro⟨⟨a,b⟩,⟨c,d⟩,f⟩; exact⟨b,d,fun q hq=>by cases hq; exact a⟩
    |some q=>
      by_cases h2:Gj q e
      ·rw[if_neg (show ¬He (some q) e from fun h=>h h2),ih];simp only[UpE,bu,aO,forall_eq_or_imp];constructor
       ·rintro⟨a,b,c⟩;exact⟨⟨fun z hz=>c e rfl z hz,a⟩,⟨by omega,b⟩,fun q' hq=>by cases hq; exact⟨h2,fun z hz=>Wb h2 (c e rfl z hz)⟩⟩
       ·rintro⟨⟨a,b⟩,⟨c,d⟩,f⟩; exact⟨b,d,fun q hq=>by cases hq; exact a⟩
      ·rw[if_pos (show He (some q) e from h2)];constructor
       ·intro h; cases h
       ·rintro⟨_,_,h⟩; exact absurd (h q rfl e (by simp)) h2
def vW (n:Int) (l:List Ed):Prop:=(0<=n/\n<=64)/\UpE l/\∀ e∈l,0<=e.1/\e.1<e.2/\e.2<n
theorem CC {n:Int} {l:List Ed}:WQ n l=0 ↔ vW n l:=by
 unfold WQ vW;by_cases h:n<0\/64<n
 ·rw[if_pos h]; constructor
  ·intro h; cases h
  ·rintro⟨h2,_⟩; omega
 ·rw[if_neg h,G2];constructor
  ·rintro⟨a,b,_⟩; exact⟨by omega,a,b⟩
  ·rintro⟨_,a,b⟩; exact⟨a,b,fun q hq=>by cases hq⟩
end Go.Bm
