/- A graph that came in: its number of nodes and its edges, as the machine by value reads them. -/
import Derived.Test.YtholnjkicdifdaaDoorMe
import Derived.Test.YtholnjkicdifdaaDoorGrfP
import Derived.Deep.SlicePairs
import Derived.OpenShut
import Derived.Deep.Matrix
namespace Go.Bm
open Go.Am Go.ChangeShapes Go.WideShapes Go.Deep
def IsEds (w : World) (a : Option Addr) (len cap : Nat) (Es : List Ed) : Prop :=
 (a = none /\ len = 0 /\ cap = 0 /\ Es = []) \/
 ∃ x,a = some x /\ len <= cap /\ cap <= maxLen /\ Es.length = len /\ ∀ i (h : i < Es.length),w.cell? (x.add (i * 2)) = some (.int .i64 Es[i].1) /\ w.cell? (x.add (i * 2 + 1)) = some (.int .i64 Es[i].2) /\ (Lit.int .i64 Es[i].1).wf = true /\ (Lit.int .i64 Es[i].2).wf = true
theorem edsRep {w : World} {a : Option Addr} {len cap : Nat} {Es : List Ed} (h : IsEds w a len cap Es) : Rep (Rd (fun _ => False) [] w) [] (.list 2 (eds Es)) (.slice a len cap) := by
 rcases h with ⟨rfl,rfl,rfl,rfl⟩ | ⟨x,rfl,hl,hm,hz,hc⟩
 ·exact .lst0 _ _
 ·have get : ∀ {i j : Nat} {y c : AV},(eds Es)[i]? = some y -> y.cells[j]? = some c -> ∃ h : i < Es.length,(j = 0 /\ c = .int .i64 Es[i].1) \/ (j = 1 /\ c = .int .i64 Es[i].2) := by
   intro i j y c hy hcj;rw [eds_get] at hy;cases he : Es[i]? with
   | none => rw [he] at hy; cases hy
   | some e =>
     rw [he] at hy;cases hy;obtain ⟨hi,rfl⟩ := List.getElem?_eq_some_iff.1 he;refine ⟨hi,?_⟩
     match j with
     | 0 => simp [edAV,AV.cells] at hcj; exact .inl ⟨rfl,hcj.symm⟩
     | 1 => simp [edAV,AV.cells] at hcj; exact .inr ⟨rfl,hcj.symm⟩
     | j + 2 => simp [edAV,AV.cells] at hcj
  refine .lst _ 2 _ x len cap (fun i j => .int .i64 (if j = 0 then (Es.getD i (0,0)).1 else (Es.getD i (0,0)).2)) (by rw [eds_length,hz]) hl ?_ ?_ ?_
  ·intro y hy;obtain ⟨e,_,rfl⟩ := List.mem_map.1 hy;rfl
  ·intro i j y c hy hcj;obtain ⟨hi,⟨rfl,rfl⟩ | ⟨rfl,rfl⟩⟩ := get hy hcj
   ·exact ⟨id,Owned.nil _,by rw [if_pos rfl,List.getD_eq_getElem?_getD,List.getElem?_eq_getElem hi]; exact (hc i hi).1⟩
   ·exact ⟨id,Owned.nil _,by rw [if_neg (by decide),List.getD_eq_getElem?_getD,List.getElem?_eq_getElem hi]; exact (hc i hi).2.1⟩
  ·intro i j y c hy hcj;obtain ⟨hi,⟨rfl,rfl⟩ | ⟨rfl,rfl⟩⟩ := get hy hcj
   ·rw [if_pos rfl,List.getD_eq_getElem?_getD,List.getElem?_eq_getElem hi]; exact .int _ _ _
   ·rw [if_neg (by decide),List.getD_eq_getElem?_getD,List.getElem?_eq_getElem hi]; exact .int _ _ _
theorem open_edges {H : Type} {enc : TypeId × Value -> H} {P : Program} {w : World} {t e : TypeId} {f0 f1 : Field} {fuel : Nat} {cs : List Value} {x : DataW H × List MemPlace} (ht : P.underlying t = some (.slice e)) (he : P.underlying e = some (.struct #[f0,f1]))
  (ce : P.cellsOf e = 2) (o0 : f0.offset = 0) (o1 : f1.offset = 1) (c0 : P.cellsOf f0.type = 1) (c1 : P.cellsOf f1.type = 1) (t0 : P.underlying f0.type = some (.int .i64)) (t1 : P.underlying f1.type = some (.int .i64))
  (h : DataW.trod enc P w 0 (fun _ => true) true fuel t cs = some x) : ∃ a len cap Es,cs = [.slice a len cap] /\ IsEds w a len cap Es := by
 rcases open_slice_pairs ht he ce o0 o1 c0 c1 h with ⟨rfl,_⟩ | ⟨a,len,cap,m,n,V0,V1,D0,D1,P0,P1,rfl,_,hl,hm,hmm,_,hi⟩
 ·exact ⟨none,0,0,[],rfl,.inl ⟨rfl,rfl,rfl,rfl⟩⟩
 ·have hlm : len <= m := by rw [hmm]; split <;> omega
  have each : ∀ i,i < len -> ∃ q : Int × Int,V0 i = .int .i64 q.1 /\ V1 i = .int .i64 q.2 /\ (Lit.int .i64 q.1).wf = true /\ (Lit.int .i64 q.2).wf = true := by
   intro i hlt;obtain ⟨_,_,g0,g1⟩ := hi i (by omega);obtain ⟨u,e0,_,w0⟩ := DataW.trod_int t0 g0;obtain ⟨v,e1,_,w1⟩ := DataW.trod_int t1 g1;exact ⟨(u,v),by simpa using e0,by simpa using e1,w0,w1⟩
  obtain ⟨q,hq⟩ := choose_lt each;refine ⟨some a,len,cap,(List.range len).map q,rfl,.inr ⟨a,rfl,hl,hm,by simp,fun i h => ?_⟩⟩;have hlt : i < len := by simpa using h
  obtain ⟨h0,h1,_,_⟩ := hi i (by omega);obtain ⟨q0,q1,q2,q3⟩ := hq i hlt;simp only [List.getElem_map,List.getElem_range];exact ⟨by rw [h0,q0],by rw [h1,q1],q2,q3⟩
theorem open_graph {H : Type} {enc : TypeId × Value -> H} {P : Program} {w : World} {base : Nat} {tg e : TypeId} {g0 g1 f0 f1 : Field} {v : Value} {d : DataW H} {p : List MemPlace} (hg : P.underlying tg = some (.struct #[g0,g1])) (cg : P.cellsOf tg = 2)
  (q0 : g0.offset = 0) (q1 : g1.offset = 1) (r0 : P.cellsOf g0.type = 1) (r1 : P.cellsOf g1.type = 1) (s0 : P.underlying g0.type = some (.int .i64)) (ht : P.underlying g1.type = some (.slice e)) (he : P.underlying e = some (.struct #[f0,f1]))
  (ce : P.cellsOf e = 2) (o0 : f0.offset = 0) (o1 : f1.offset = 1) (c0 : P.cellsOf f0.type = 1) (c1 : P.cellsOf f1.type = 1) (t0 : P.underlying f0.type = some (.int .i64)) (t1 : P.underlying f1.type = some (.int .i64))
  (hv : Value.okWide P w .any base tg v) (h : DataW.Trod enc P w 0 (fun _ => true) true tg v d p) :
  ∃ n a len cap Es,v = .agg #[.int .i64 n,.slice a len cap] /\ IsEds w a len cap Es /\ (Lit.int .i64 n).wf = true /\ ∀ x ∈ p,x.block < w.heap.size := by
 obtain ⟨cs,rfl,hsz⟩ := okWide_struct hg hv;have lt0 : ∀ x ∈ p,x.block < w.heap.size := by obtain ⟨m,hm⟩ := h; exact DataW.trod_lt m _ _ _ hm
 obtain ⟨fuel,hf⟩ := h;obtain ⟨y0,y1,k,_,_,h0,h1⟩ := trod_struct2 hg hf;rw [cg] at hsz;obtain ⟨v0,v1,rfl⟩ : ∃ v0 v1,cs = #[v0,v1] := ⟨cs[0],cs[1],by apply Array.ext <;> simp [hsz]; intro i hi; rcases i with _ | _ | i <;> simp <;> omega⟩;rw [q0,r0] at h0;rw [q1,r1] at h1;simp [Value.cells] at h0 h1;obtain ⟨n,e0,_,wn⟩ := DataW.trod_int s0 h0;obtain ⟨a,len,cap,Es,e1,hE⟩ := open_edges ht he ce o0 o1 c0 c1 t0 t1 h1;simp at e0 e1;subst e0; subst e1;exact ⟨n,a,len,cap,Es,rfl,hE,wn,lt0⟩
theorem graphRep {w : World} {n : Int} {a : Option Addr} {len cap : Nat} {Es : List Ed} (h : IsEds w a len cap Es) : Rep (Rd (fun _ => False) [] w) [] (.agg [.int .i64 n,.list 2 (eds Es)]) (.agg #[.int .i64 n,.slice a len cap]) := by
 refine .agg _ _ _ rfl fun i c v hc hv => ?_
 match i with
 | 0 => simp at hc hv; subst hc; subst hv; exact .int _ _ _
 | 1 => simp at hc hv; subst hc; subst hv; exact edsRep h
 | i + 2 => simp at hc
/- A slice of slices of ints that came in, as the machine by value reads it. -/
def IsLls (w : World) (a : Option Addr) (len cap : Nat) (Z : List (List Int)) : Prop :=
 (a = none /\ len = 0 /\ cap = 0 /\ Z = []) \/
 ∃ x,a = some x /\ len <= cap /\ cap <= maxLen /\ Z.length = len /\ ∀ i (h : i < Z.length),∃ b l c zs,w.cell? (x.add i) = some (.slice b l c) /\ IsRow .i64 w b l c zs /\ Z[i] = zs.take l
theorem llsRep {w : World} {a : Option Addr} {len cap : Nat} {Z : List (List Int)} (h : IsLls w a len cap Z) : Rep (Rd (fun _ => False) [] w) [] (.list 1 (Z.map fun S => .list 1 (ints S))) (.slice a len cap) := by
 rcases h with ⟨rfl,rfl,rfl,rfl⟩ | ⟨x,rfl,hl,hm,hz,hc⟩
 ·exact .lst0 _ _
 ·have get : ∀ {i j : Nat} {y c : AV},(Z.map fun S => AV.list 1 (ints S))[i]? = some y -> y.cells[j]? = some c -> ∃ h : i < Z.length,j = 0 /\ c = .list 1 (ints Z[i]) := by
   intro i j y c hy hcj;rw [List.getElem?_map] at hy;cases he : Z[i]? with
   | none => rw [he] at hy; cases hy
   | some e =>
     rw [he] at hy;cases hy;obtain ⟨hi,rfl⟩ := List.getElem?_eq_some_iff.1 he;cases j with
     | zero => simp [AV.cells] at hcj; exact ⟨hi,rfl,hcj.symm⟩
     | succ j => simp [AV.cells] at hcj
  refine .lst _ 1 _ x len cap (fun i _ => (w.cell? (x.add i)).getD undef) (by simp [hz]) hl ?_ ?_ ?_
  ·intro y hy;obtain ⟨e,_,rfl⟩ := List.mem_map.1 hy;rfl
  ·intro i j y c hy hcj;obtain ⟨hi,rfl,rfl⟩ := get hy hcj;obtain ⟨b,l,d,zs,h1,_,_⟩ := hc i hi;exact ⟨id,Owned.nil _,by simp [h1]⟩
  ·intro i j y c hy hcj;obtain ⟨hi,rfl,rfl⟩ := get hy hcj;obtain ⟨b,l,d,zs,h1,h2,h3⟩ := hc i hi;rw [h1,h3];exact rowRep h2
theorem lls_bd {w : World} {a : Option Addr} {len cap : Nat} {Z : List (List Int)} (h : IsLls w a len cap Z) : ∀ S ∈ Z,S.length <= 9223372036854775807 := by
 intro S hS;rcases h with ⟨_,_,_,rfl⟩ | ⟨x,_,_,_,_,hc⟩
 ·cases hS
 ·obtain ⟨i,hi,rfl⟩ := List.getElem_of_mem hS;obtain ⟨b,l,d,zs,_,h2,h3⟩ := hc i hi;rw [h3];rcases h2 with ⟨_,rfl,_,rfl⟩ | ⟨y,_,h4,h5,h6,_⟩
  ·simp
  ·rw [List.length_take];have : maxLen = 9223372036854775807 := rfl;omega
theorem open_lls {H : Type} {enc : TypeId × Value -> H} {P : Program} {w : World} {base : Nat} {t e q : TypeId} {v : Value} {d : DataW H} {p : List MemPlace} (ht : P.underlying t = some (.slice e)) (he : P.underlying e = some (.slice q)) (hq : P.underlying q = some (.int .i64))
  (ce : P.cellsOf e = 1) (cq : P.cellsOf q = 1) (hv : Value.okWide P w .any base t v) (h : DataW.Trod enc P w 0 (fun _ => true) true t v d p) :
  ∃ a len cap Z,v = .slice a len cap /\ IsLls w a len cap Z /\ ∀ x ∈ p,x.block < w.heap.size := by
 obtain ⟨a0,len0,cap0,rfl⟩ := okWide_slice ht hv;have lt0 : ∀ x ∈ p,x.block < w.heap.size := by obtain ⟨m,hm⟩ := h; exact DataW.trod_lt m _ _ _ hm
 obtain ⟨fuel,hf⟩ := h;rcases open_int_rows ht he hq ce cq hf with ⟨hcs,_⟩ | ⟨a,len,cap,A,L,C,Z,hcs,_,hl,hm,_,hr⟩
 ·simp [Value.cells] at hcs;obtain ⟨rfl,rfl,rfl⟩ := hcs;exact ⟨none,0,0,[],rfl,.inl ⟨rfl,rfl,rfl,rfl⟩,lt0⟩
 ·simp [Value.cells] at hcs;obtain ⟨rfl,rfl,rfl⟩ := hcs;refine ⟨_,_,_,(List.range len0).map fun r => (Z r).take (L r),rfl,.inr ⟨a,rfl,hl,hm,by simp,fun i hi => ?_⟩,lt0⟩;have hi' : i < len0 := by simpa using hi
  obtain ⟨c1,c2,c3,c4,c5,c6,c7⟩ := hr i (by omega);refine ⟨A i,L i,C i,Z i,c1,?_,by simp⟩;cases hA : A i with
  | none =>
    have z := c6 hA;have : Z i = [] := List.eq_nil_of_length_eq_zero (by omega);exact .inl ⟨rfl,by omega,z,this⟩
  | some a' =>
    obtain ⟨_,k⟩ := c7 a' hA;exact .inr ⟨a',rfl,c2,c3,c4,fun j hj => k j (by omega),c5⟩
end Go.Bm
