/- A plain sort of parts (level, parent, set); the library's sort by hierarchy's comparison as a function that writes into the slice it is given. -/
import Derived.Test.YtpimmjklbakckaaDoorGrfP
import Derived.Lib.ItoaNum
set_option linter.unusedSimpArgs false
set_option linter.unusedVariables false
open List renaming mem_cons → aK, pairwise_cons → bp
namespace Go.Bm
open Go.Am
abbrev Pt:=Int × Int × List Int
def en (x:Pt):AV:=.agg [.int .i64 x.1,.int .i64 x.2.1,.list 1 (ints x.2.2)]
def Er:List AV->Option (List Int)
 |[]=>some []
 |.int .i64 a::r=>match Er r with
   |some l=>some (a::l)
   |none=>none
 |_=>none
theorem Lj:∀{cs:List AV} {l:List Int},Er cs=some l->cs=ints l
 |[],l,h=>by simp[Er] at h; subst h; rfl
 |c::r,l,h=>by
   unfold Er at h;split at h
   ·rename_i heq; cases heq
   ·rename_i a r' heq;cases heq;split at h
    ·rename_i l' hl;simp at h;subst h;rw[Lj hl];rfl
    ·cases h
   ·cases h
theorem Ep:∀l:List Int,Er (ints l)=some l
 |[]=>rfl
 |x::r=>by
   have ih:=Ep r;unfold ints at ih ⊢;simp[Er,ih]
def BN:List AV->Option (List Pt)
 |[]=>some []
 |.agg [.int .i64 a,.int .i64 b,.list 1 cs]::r=>match Er cs,BN r with
   |some s,some l=>some ((a,b,s)::l)
   |_,_=>none
 |_=>none
theorem Kn:∀{cs:List AV} {zs:List Pt},BN cs=some zs->cs=zs.map en
 |[],zs,h=>by simp[BN] at h; subst h; rfl
 |c::r,zs,h=>by
   unfold BN at h;split at h
   ·rename_i heq; cases heq
   ·rename_i a b cs r' heq;cases heq;split at h
    ·rename_i s l hs hl;simp at h;subst h;rw[Kn hl,Lj hs];rfl
    ·cases h
   ·cases h
theorem GI:∀zs:List Pt,BN (zs.map en)=some zs
 |[]=>rfl
 |z::r=>by
   have ih:=GI r;simp only[List.map_cons,en,BN,Ep];rw[ih]
def qT (a b:Int):Int:=if b<a then 1 else if a<b then -1 else 0
def Ow (x y:Pt):Int:=if qT x.1 y.1=0 then iH x.2.2 y.2.2 else qT x.1 y.1
def Cg (x y:Pt):Bool:=decide (Ow x y<0)
theorem XB {a b:Int}:qT a b<0 ↔ a<b:=by unfold qT; split<;>(try split)<;>omega
theorem Hu {a b:Int}:qT a b=0 ↔ a=b:=by unfold qT; split<;>(try split)<;>omega
theorem XA:∀a:List Int,¬iH a a<0:=fun a=>by rw[Hs.2 rfl]; omega
theorem EW:∀{a b c:List Int},iH a b<0->iH b c<0->iH a c<0
 |[],b,c,h1,h2=>by
   cases c with
   |nil=>cases b<;>simp[iH] at h1 h2
   |cons z t=>simp[iH]
 |x::r,[],c,h1,h2=>by simp[iH] at h1
 |x::r,y::s,[],h1,h2=>by simp[iH] at h2
 |x::r,y::s,z::t,h1,h2=>by
   have ih:=@EW r s t;unfold iH at h1 h2 ⊢
   repeat' split at h1
   all_goals (repeat' split at h2)
   all_goals (repeat' split)
   all_goals first
    |omega
    |exact ih h1 h2
theorem Mc:∀a b:List Int,iH a b<0\/a=b\/iH b a<0
 |[],[]=>.inr (.inl rfl)
 |[],y::s=>.inl (by simp[iH])
 |x::r,[]=>.inr (.inr (by simp[iH]))
 |x::r,y::s=>by
   have ih:=Mc r s;by_cases h1:x<y
   ·left; unfold iH; rw[if_neg (by omega),if_pos h1]; omega
   ·by_cases h2:y<x
    ·right; right; unfold iH; rw[if_neg (by omega),if_pos h2]; omega
    ·have:x=y:=by omega
     subst this;rcases ih with h|h|h
     ·left; unfold iH; rw[if_neg h1,if_neg h1]; exact h
     ·right; left; rw[h]
     ·right; right; unfold iH; rw[if_neg h1,if_neg h1]; exact h
theorem tE {x y:Pt}:Cg x y=true ↔ x.1<y.1\/(x.1=y.1/\iH x.2.2 y.2.2<0):=by
 unfold Cg Ow;rw[decide_eq_true_eq];split
 ·rename_i h; rw[Hu] at h; omega
 ·rename_i h; rw[Hu] at h; rw[XB]; omega
theorem Rm (x:Pt):Cg x x=false:=by
 cases h:Cg x x with
 |false=>rfl
 | true => rcases tE.1 h with h | ⟨_, h⟩; · omega
           ·exact absurd h (XA _)
theorem wT {x y z:Pt} (h1:Cg x y=true) (h2:Cg y z=true):Cg x z=true:=by
 rw[tE] at *;rcases h1 with h1|⟨h1,k1⟩<;>rcases h2 with h2|⟨h2,k2⟩
 ·left; omega
 ·left; omega
 ·left; omega
 ·right; exact⟨by omega,EW k1 k2⟩
theorem Iu (x y:Pt):Cg x y=true\/(x.1=y.1/\x.2.2=y.2.2)\/Cg y x=true:=by
 by_cases h1:x.1<y.1
 ·exact .inl (tE.2 (.inl h1))
 by_cases h2:y.1<x.1
 ·exact .inr (.inr (tE.2 (.inl h2)))
 have e:x.1=y.1:=by omega
 rcases Mc x.2.2 y.2.2 with h|h|h
 ·exact .inl (tE.2 (.inr ⟨e,h⟩))
 ·exact .inr (.inl ⟨e,h⟩)
 ·exact .inr (.inr (tE.2 (.inr ⟨e.symm,h⟩)))
def Lc:List Pt->Bool
 |[]=>true
 |x::r=>r.all (fun y=>!(decide (x.1=y.1)&&decide (x.2.2=y.2.2)))&&Lc r
theorem vL:∀{l:List Pt},Lc l=true ↔ l.Pairwise fun x y=>¬(x.1=y.1/\x.2.2=y.2.2)
 |[]=>by simp[Lc]
 |x::r=>by
   rw[bp,Lc,Bool.and_eq_true,vL,List.all_eq_true];refine and_congr ⟨fun h y hy e=>?_,fun h y hy=>?_⟩ Iff.rfl
   ·have:=h y hy;rw[decide_eq_true e.1,decide_eq_true e.2] at this;cases this
   ·have:=h y hy;cases h1:decide (x.1=y.1) with
    |false=>rfl
    |true=>cases h2:decide (x.2.2=y.2.2) with
      |false=>rfl
      |true=>exact absurd ⟨of_decide_eq_true h1,of_decide_eq_true h2⟩ this
def NL (x:Pt):List Pt->List Pt
 |[]=>[x]
 |y::r=>if Cg x y=true then x::y::r else y::NL x r
def kW:List Pt->List Pt
 |[]=>[]
 |x::r=>NL x (kW r)
theorem A4 (x:Pt):∀l,(NL x l).Perm (x::l)
 |[]=>.refl _
 |y::r=>by
   unfold NL;split
   ·exact .refl _
   ·exact ((A4 x r).cons y).trans (.swap x y r)
theorem lF:∀l,(kW l).Perm l
 |[]=>.refl _
 |x::r=>(A4 x _).trans ((lF r).cons x)
theorem ko (l:List Pt):(kW l).length=l.length:=(lF l).length_eq
theorem Lk (x:Pt):∀{l},(∀y∈l,¬(x.1=y.1/\x.2.2=y.2.2))->l.Pairwise (fun a b=>Cg a b=true)->(NL x l).Pairwise fun a b=>Cg a b=true
 |[],_,_=>by simp[NL]
 |y::r,hd,hp=>by
   obtain⟨p1,p2⟩:=bp.1 hp;unfold NL;split
   ·rename_i e;refine bp.2 ⟨fun z hz=>?_,hp⟩;rcases aK.1 hz with rfl|hz
    ·exact e
    ·exact wT e (p1 z hz)
   ·rename_i e;refine bp.2 ⟨fun z hz=>?_,Lk x (fun z hz=>hd z (List.mem_cons_of_mem _ hz)) p2⟩;rcases aK.1 ((A4 x r).mem_iff.1 hz) with rfl|hz
    ·rcases Iu z y with h|h|h
     ·exact absurd h e
     ·exact absurd h (hd y List.mem_cons_self)
     ·exact h
    ·exact p1 z hz
theorem yF:∀{l},Lc l=true->(kW l).Pairwise fun a b=>Cg a b=true
 |[],_=>.nil
 |x::r,h=>by
   have h2:=bp.1 (vL.1 h);exact Lk x (fun y hy=>h2.1 y ((lF r).mem_iff.1 hy)) (yF (vL.2 h2.2))
theorem OG {a b:List Pt} (ha:a.Pairwise fun x y=>Cg x y=true) (hb:b.Pairwise fun x y=>Cg x y=true) (h:a.Perm b):a=b:=
 List.Perm.eq_of_pairwise (le:=fun x y=>Cg x y=true) (fun x y _ _ h1 h2=>by have:=wT h1 h2; rw[Rm] at this; cases this) ha hb h
def okP (zs:List Pt):Bool:=Lc zs&&zs.all fun z=>decide (z.2.2.length<=1000)
def psG (nC:Nat) (k:Nat) (xs es:List AV):Option (List AV × Option Nat):=
 match es with
 |[.func (.func m) [] []]=>if m=nC/\k=3/\xs.length<=p7 then match BN xs with
   |some zs=>if okP zs=true then some ((kW zs).map en,none) else none
   |none=>none else none
 |_=>none
def mV (n:Int):ByteArray:=⟨(Lib.decDigits n.toNat).toArray⟩
def Hb:List AV->Heap->Option (AV × Heap)
 |[.int .i64 n,.int .i64 10],[]=>if 0<=n/\n<100 then some (.str (mV n),[]) else none
 |_,_=>none
end Go.Bm
