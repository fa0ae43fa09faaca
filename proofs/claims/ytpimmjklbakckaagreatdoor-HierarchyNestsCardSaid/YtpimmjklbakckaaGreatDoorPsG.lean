/- A plain sort of parts (level, parent, set); the library's sort by hierarchy's comparison as a function that writes into the slice it is given. -/
import Derived.Test.YtpimmjklbakckaaGreatDoorGrfP
import Derived.Lib.ItoaNum
set_option linter.unusedSimpArgs false
set_option linter.unusedVariables false
open List renaming mem_cons → aO, pairwise_cons → bu
namespace Go.Bm
open Go.Am
abbrev Pt:=Int × Int × List Int
def dZ (x:Pt):AV:=.agg [.int .i64 x.1,.int .i64 x.2.1,.list 1 (ints x.2.2)]
def Gv:List AV->Option (List Int)
 |[]=>some []
 |.int .i64 a::r=>match Gv r with
   |some l=>some (a::l)
   |none=>none
 |_=>none
theorem NO:∀{cs:List AV} {l:List Int},Gv cs=some l->cs=ints l
 |[],l,h=>by simp[Gv] at h; subst h; rfl
 |c::r,l,h=>by
   unfold Gv at h;split at h
   ·rename_i heq; cases heq
   ·rename_i a r' heq;cases heq;split at h
    ·rename_i l' hl;simp at h;subst h;rw[NO hl];rfl
    ·cases h
   ·cases h
theorem Gu:∀l:List Int,Gv (ints l)=some l
 |[]=>rfl
 |x::r=>by
   have ih:=Gu r;unfold ints at ih ⊢;simp[Gv,ih]
def Dk:List AV->Option (List Pt)
 |[]=>some []
 |.agg [.int .i64 a,.int .i64 b,.list 1 cs]::r=>match Gv cs,Dk r with
   |some s,some l=>some ((a,b,s)::l)
   |_,_=>none
 |_=>none
theorem MH:∀{cs:List AV} {zs:List Pt},Dk cs=some zs->cs=zs.map dZ
 |[],zs,h=>by simp[Dk] at h; subst h; rfl
 |c::r,zs,h=>by
   unfold Dk at h;split at h
   ·rename_i heq; cases heq
   ·rename_i a b cs r' heq;cases heq;split at h
    ·rename_i s l hs hl;simp at h;subst h;rw[MH hl,NO hs];rfl
    ·cases h
   ·cases h
theorem I2:∀zs:List Pt,Dk (zs.map dZ)=some zs
 |[]=>rfl
 |z::r=>by
   have ih:=I2 r;simp only[List.map_cons,dZ,Dk,Gu];rw[ih]
def rK (a b:Int):Int:=if b<a then 1 else if a<b then -1 else 0
def Q6 (x y:Pt):Int:=if rK x.1 y.1=0 then iI x.2.2 y.2.2 else rK x.1 y.1
def DS (x y:Pt):Bool:=decide (Q6 x y<0)
theorem aah {a b:Int}:rK a b<0 ↔ a<b:=by unfold rK; split<;>(try split)<;>omega
theorem JL {a b:Int}:rK a b=0 ↔ a=b:=by unfold rK; split<;>(try split)<;>omega
theorem aag:∀a:List Int,¬iI a a<0:=fun a=>by rw[JK.2 rfl]; omega
theorem GX:∀{a b c:List Int},iI a b<0->iI b c<0->iI a c<0
 |[],b,c,h1,h2=>by
   cases c with
   |nil=>cases b<;>simp[iI] at h1 h2
   |cons z t=>simp[iI]
 |x::r,[],c,h1,h2=>by simp[iI] at h1
 |x::r,y::s,[],h1,h2=>by simp[iI] at h2
 |x::r,y::s,z::t,h1,h2=>by
   have ih:=@GX r s t;unfold iI at h1 h2 ⊢
   repeat' split at h1
   all_goals (repeat' split at h2)
   all_goals (repeat' split)
   all_goals first
    |omega
    |exact ih h1 h2
theorem OE:∀a b:List Int,iI a b<0\/a=b\/iI b a<0
 |[],[]=>.inr (.inl rfl)
 |[],y::s=>.inl (by simp[iI])
 |x::r,[]=>.inr (.inr (by simp[iI]))
 |x::r,y::s=>by
   have ih:=OE r s;by_cases h1:x<y
   ·left; unfold iI; rw[if_neg (by omega),if_pos h1]; omega
   ·by_cases h2:y<x
    ·right; right; unfold iI; rw[if_neg (by omega),if_pos h2]; omega
    ·have:x=y:=by omega
     subst this;rcases ih with h|h|h
     ·left; unfold iI; rw[if_neg h1,if_neg h1]; exact h
     ·right; left; rw[h]
     ·right; right; unfold iI; rw[if_neg h1,if_neg h1]; exact h
theorem ub {x y:Pt}:DS x y=true ↔ x.1<y.1\/(x.1=y.1/\iI x.2.2 y.2.2<0):=by
 unfold DS Q6;rw[decide_eq_true_eq];split
 ·rename_i h; rw[JL] at h; omega
 ·rename_i h; rw[JL] at h; rw[aah]; omega
theorem TW (x:Pt):DS x x=false:=by
 cases h:DS x x with
 |false=>rfl
 | true => rcases ub.1 h with h | ⟨_, h⟩; · omega
           ·exact absurd h (aag _)
theorem xU {x y z:Pt} (h1:DS x y=true) (h2:DS y z=true):DS x z=true:=by
 rw[ub] at *;rcases h1 with h1|⟨h1,k1⟩<;>rcases h2 with h2|⟨h2,k2⟩
 ·left; omega
 ·left; omega
 ·left; omega
 ·right; exact⟨by omega,GX k1 k2⟩
theorem Ky (x y:Pt):DS x y=true\/(x.1=y.1/\x.2.2=y.2.2)\/DS y x=true:=by
 by_cases h1:x.1<y.1
 ·exact .inl (ub.2 (.inl h1))
 by_cases h2:y.1<x.1
 ·exact .inr (.inr (ub.2 (.inl h2)))
 have e:x.1=y.1:=by omega
 rcases OE x.2.2 y.2.2 with h|h|h
 ·exact .inl (ub.2 (.inr ⟨e,h⟩))
 ·exact .inr (.inl ⟨e,h⟩)
 ·exact .inr (.inr (ub.2 (.inr ⟨e.symm,h⟩)))
def NK:List Pt->Bool
 |[]=>true
 |x::r=>r.all (fun y=>!(decide (x.1=y.1)&&decide (x.2.2=y.2.2)))&&NK r
theorem wW:∀{l:List Pt},NK l=true ↔ l.Pairwise fun x y=>¬(x.1=y.1/\x.2.2=y.2.2)
 |[]=>by simp[NK]
 |x::r=>by
   rw[bu,NK,Bool.and_eq_true,wW,List.all_eq_true];refine and_congr ⟨fun h y hy e=>?_,fun h y hy=>?_⟩ Iff.rfl
   ·have:=h y hy;rw[decide_eq_true e.1,decide_eq_true e.2] at this;cases this
   ·have:=h y hy;cases h1:decide (x.1=y.1) with
    |false=>rfl
    |true=>cases h2:decide (x.2.2=y.2.2) with
      |false=>rfl
      |true=>exact absurd ⟨of_decide_eq_true h1,of_decide_eq_true h2⟩ this
def Qt (x:Pt):List Pt->List Pt
 |[]=>[x]
 |y::r=>if DS x y=true then x::y::r else y::Qt x r
def kT:List Pt->List Pt
 |[]=>[]
 |x::r=>Qt x (kT r)
theorem Cf (x:Pt):∀l,(Qt x l).Perm (x::l)
 |[]=>.refl _
 |y::r=>by
   unfold Qt;split
   ·exact .refl _
   ·exact ((Cf x r).cons y).trans (.swap x y r)
theorem oS:∀l,(kT l).Perm l
 |[]=>.refl _
 |x::r=>(Cf x _).trans ((oS r).cons x)
theorem ko (l:List Pt):(kT l).length=l.length:=(oS l).length_eq
theorem NP (x:Pt):∀{l},(∀y∈l,¬(x.1=y.1/\x.2.2=y.2.2))->l.Pairwise (fun a b=>DS a b=true)->(Qt x l).Pairwise fun a b=>DS a b=true
 |[],_,_=>by simp[Qt]
 |y::r,hd,hp=>by
   obtain⟨p1,p2⟩:=bu.1 hp;unfold Qt;split
   ·rename_i e;refine bu.2 ⟨fun z hz=>?_,hp⟩;rcases aO.1 hz with rfl|hz
    ·exact e
    ·exact xU e (p1 z hz)
   ·rename_i e;refine bu.2 ⟨fun z hz=>?_,NP x (fun z hz=>hd z (List.mem_cons_of_mem _ hz)) p2⟩;rcases aO.1 ((Cf x r).mem_iff.1 hz) with rfl|hz
    ·rcases Ky z y with h|h|h
     ·exact absurd h e
     ·exact absurd h (hd y List.mem_cons_self)
     ·exact h
    ·exact p1 z hz
theorem zN:∀{l},NK l=true->(kT l).Pairwise fun a b=>DS a b=true
 |[],_=>.nil
 |x::r,h=>by
   have h2:=bu.1 (wW.1 h);exact NP x (fun y hy=>h2.1 y ((oS r).mem_iff.1 hy)) (zN (wW.2 h2.2))
theorem Rk {a b:List Pt} (ha:a.Pairwise fun x y=>DS x y=true) (hb:b.Pairwise fun x y=>DS x y=true) (h:a.Perm b):a=b:=
 List.Perm.eq_of_pairwise (le:=fun x y=>DS x y=true) (fun x y _ _ h1 h2=>by have:=xU h1 h2; rw[TW] at this; cases this) ha hb h
def okP (zs:List Pt):Bool:=NK zs&&zs.all fun z=>decide (z.2.2.length<=1000)
def psG (nC:Nat) (k:Nat) (xs es:List AV):Option (List AV × Option Nat):=
 match es with
 |[.func (.func m) [] []]=>if m=nC/\k=3/\xs.length<=mN then match Dk xs with
   |some zs=>if okP zs=true then some ((kT zs).map dZ,none) else none
   |none=>none else none
 |_=>none
def mV (n:Int):ByteArray:=⟨(Lib.decDigits n.toNat).toArray⟩
def Jt:List AV->Heap->Option (AV × Heap)
 |[.int .i64 n,.int .i64 10],[]=>if 0<=n/\n<100 then some (.str (mV n),[]) else none
 |_,_=>none
end Go.Bm
