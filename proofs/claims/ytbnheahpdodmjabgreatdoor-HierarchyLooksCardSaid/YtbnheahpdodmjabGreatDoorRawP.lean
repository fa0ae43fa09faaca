/- A graph that came in: its number of nodes and its edges, as the machine by value reads them. -/
import Derived.Deep.SlicePairs
import Derived.OpenShut
import Derived.Test.YtbnheahpdodmjabGreatDoorPsG
open Nat renaming add_zero → Cf
namespace Go.Bm
open Go.Am Go.ChangeShapes Go.WideShapes Go.Deep
/- A list of parts that came in, as the machine by value reads it. -/
def aho (w:World) (a:Option Addr) (len cap:Nat) (Z:List Pt):Prop:=
 (a=none/\len=0/\cap=0/\Z=[]) \/
 ∃ x,a=some x/\len<=cap/\cap<=maxLen/\Z.length=len/\∀ i (h:i<Z.length),∃b l c zs,(w.cell? (x.add (i*3))=some (.int .i64 Z[i].1)/\w.cell? (x.add (i*3+1))=some (.int .i64 Z[i].2.1)/\w.cell? (x.add (i*3+2))=some (.slice b l c))/\QE .i64 w b l c zs/\Z[i].2.2=zs.take l/\(Lit.int .i64 Z[i].1).wf=true/\(Lit.int .i64 Z[i].2.1).wf=true
theorem alE {w:World} {a:Option Addr} {len cap:Nat} {Z:List Pt} (h:aho w a len cap Z):bR (Rd (fun _=>False) [] w) [] (.list 3 (Z.map bw)) (.slice a len cap):=by
 rcases h with⟨rfl,rfl,rfl,rfl⟩|⟨x,rfl,hl,hm,hz,hc⟩
 ·exact .lJ _ _
 ·have get:∀{i j:Nat} {y c:AV},(Z.map bw)[i]?=some y->y.cells[j]?=some c->∃h:i<Z.length,(j=0/\c=.int .i64 Z[i].1)\/(j=1/\c=.int .i64 Z[i].2.1)\/(j=2/\c=.list 1 (ints Z[i].2.2)):=by
   intro i j y c hy hcj;rw[List.getElem?_map] at hy;cases he:Z[i]? with
   |none=>rw[he] at hy; cases hy
   |some e=>
     rw[he] at hy;cases hy;obtain⟨hi,rfl⟩:=List.getElem?_eq_some_iff.1 he;refine⟨hi,?_⟩
     match j with
     |0=>simp[bw,AV.cells] at hcj; exact .inl ⟨rfl,hcj.symm⟩
     |1=>simp[bw,AV.cells] at hcj; exact .inr (.inl ⟨rfl,hcj.symm⟩)
     |2=>simp[bw,AV.cells] at hcj; exact .inr (.inr ⟨rfl,hcj.symm⟩)
     |j+3=>simp[bw,AV.cells] at hcj
  refine .yG _ 3 _ x len cap (fun i j=>(w.cell? (x.add (i*3+j))).getD undef) (by rw[List.length_map,hz]) hl ?_ ?_ ?_
  ·intro y hy;obtain⟨e,_,rfl⟩:=List.mem_map.1 hy;rfl
  ·intro i j y c hy hcj;obtain⟨hi,hj⟩:=get hy hcj;obtain⟨b,l,d,zs,⟨h1,h2,h3⟩,_⟩:=hc i hi;rcases hj with⟨rfl,rfl⟩|⟨rfl,rfl⟩|⟨rfl,rfl⟩
   ·exact⟨id,bU.nil _,by rw[Cf,h1]; rfl⟩
   ·exact⟨id,bU.nil _,by rw[h2]; rfl⟩
   ·exact⟨id,bU.nil _,by rw[h3]; rfl⟩
  ·intro i j y c hy hcj;obtain⟨hi,hj⟩:=get hy hcj;obtain⟨b,l,d,zs,⟨h1,h2,h3⟩,h4,h5,_⟩:=hc i hi;rcases hj with⟨rfl,rfl⟩|⟨rfl,rfl⟩|⟨rfl,rfl⟩
   ·rw[Cf,h1]; exact .int _ _ _
   ·rw[h2]; exact .int _ _ _
   ·rw[h3,h5]; exact adZ h4
theorem alD {w:World} {a:Option Addr} {len cap:Nat} {Z:List Pt} (h:aho w a len cap Z):Z.length<=9223372036854775807/\∀ z∈Z,z.2.2.length<=9223372036854775807:=by
 have m:maxLen=9223372036854775807:=rfl;rcases h with⟨_,_,_,rfl⟩|⟨x,_,h1,h2,h3,hc⟩
 ·exact⟨by simp,fun z hz=>by cases hz⟩
 ·refine⟨by omega,fun z hz=>?_⟩;obtain⟨i,hi,rfl⟩:=List.getElem_of_mem hz;obtain⟨b,l,d,zs,_,h4,h5,_⟩:=hc i hi;rw[h5];rcases h4 with⟨_,rfl,_,rfl⟩|⟨y,_,g4,g5,g6,_⟩
  ·simp
  ·rw[List.length_take];omega
theorem ac0 {H:Type} {enc:TypeId × Value->H} {P:Program} {w:World} {t e:TypeId} {fuel:Nat} {cs:List Value} {x:DataW H × List MemPlace} (ht:P.underlying t=some (.slice e)) (he:P.underlying e=some (.int .i64)) (ce:P.cellsOf e=1)
  (h:DataW.trod enc P w 0 (fun _=>true) true fuel t cs=some x):∃a len cap zs,cs=[.slice a len cap]/\QE .i64 w a len cap zs:=by
 rcases open_ints ht he ce h with⟨dQ,hx⟩|⟨x,l,c,zs,dQ,_,hl,hm,hz,hx,ja,hwz⟩
 ·exact⟨none,0,0,[],dQ,.inl ⟨rfl,rfl,rfl,rfl⟩⟩
 ·exact⟨some x,l,c,zs,dQ,.inr ⟨_,rfl,hl,hm,by simpa using hz,ja,hwz⟩⟩
theorem afj {H:Type} {enc:TypeId × Value->H} {P:Program} {w:World} {base:Nat} {t e q:TypeId} {f0 f1 f2:Field} {v:Value} {d:DataW H} {p:List MemPlace} (ht:P.underlying t=some (.slice e)) (he:P.underlying e=some (.struct #[f0,f1,f2]))
  (ce:P.cellsOf e=3) (o0:f0.offset=0) (o1:f1.offset=1) (o2:f2.offset=2) (c0:P.cellsOf f0.type=1) (c1:P.cellsOf f1.type=1) (c2:P.cellsOf f2.type=1) (t0:P.underlying f0.type=some (.int .i64)) (t1:P.underlying f1.type=some (.int .i64)) (t2:P.underlying f2.type=some (.slice q)) (hq:P.underlying q=some (.int .i64)) (cq:P.cellsOf q=1)
  (hv:Value.okWide P w .any base t v) (h:DataW.Trod enc P w 0 (fun _=>true) true t v d p) :
  ∃ a len cap Z,v=.slice a len cap/\aho w a len cap Z/\∀ x∈p,x.block<w.heap.size:=by
 obtain⟨a0,len0,cap0,rfl⟩:=okWide_slice ht hv;have lt0:∀x∈p,x.block<w.heap.size:=by obtain⟨m,hm⟩:=h; exact DataW.trod_lt m _ _ _ hm
 obtain⟨fuel,hf⟩:=h;rcases open_slice ht hf with⟨dQ,_⟩|⟨a,len,cap,m,n,D,Pl,dQ,_,hl,hm,hmm,_,hx⟩
 ·simp[Value.cells] at dQ;obtain⟨rfl,rfl,rfl⟩:=dQ;exact⟨none,0,0,[],rfl,.inl ⟨rfl,rfl,rfl,rfl⟩,lt0⟩
 ·simp[Value.cells] at dQ;obtain⟨rfl,rfl,rfl⟩:=dQ;have hlm:len0<=m:=by rw[hmm]; split<;>omega
  have each:∀i,i<len0->∃z:Pt,∃b l c zs,(w.cell? (a.add (i*3))=some (.int .i64 z.1)/\w.cell? (a.add (i*3+1))=some (.int .i64 z.2.1)/\w.cell? (a.add (i*3+2))=some (.slice b l c))/\QE .i64 w b l c zs/\z.2.2=zs.take l/\(Lit.int .i64 z.1).wf=true/\(Lit.int .i64 z.2.1).wf=true:=by
   intro i hi;obtain⟨cs',h1,h2⟩:=hx i (by omega);rw[ce] at h1;obtain⟨_,hlen,ja⟩:=World.cells?_some h1;obtain⟨xs,k,hk,hxy,_,hxl,hf⟩:=DataW.trod_struct he h2
   match xs,hxl,cs',hlen with
   |[y0,y1,y2],_,[v0,v1,v2],_=>
     have g0:=hf 0 f0 rfl;have g1:=hf 1 f1 rfl;have g2:=hf 2 f2 rfl;simp[o0,o1,o2,c0,c1,c2] at g0 g1 g2;have e0:=ja 0 (by omega);have e1:=ja 1 (by omega);have e2:=ja 2 (by omega);rw[add_add] at e0 e1 e2;obtain⟨n0,q0,_,w0⟩:=DataW.trod_int t0 g0;obtain⟨n1,q1,_,w1⟩:=DataW.trod_int t1 g1;obtain⟨b,l,c,zs,q2,hr⟩:=ac0 t2 hq cq g2;simp at q0 q1 q2;subst q0; subst q1; subst q2;exact⟨(n0,n1,zs.take l),b,l,c,zs,⟨by simpa using e0,by simpa using e1,by simpa using e2⟩,hr,rfl,w0,w1⟩
  obtain⟨z,hz⟩:=choose_lt each;refine⟨some a,len0,cap0,(List.range len0).map z,rfl,.inr ⟨a,rfl,hl,hm,by simp,fun i hi=>?_⟩,lt0⟩;have bE:i<len0:=by simpa using hi
  obtain⟨b,l,c,zs,k⟩:=hz i bE;simp only[List.getElem_map,List.getElem_range];exact⟨b,l,c,zs,k⟩
end Go.Bm
