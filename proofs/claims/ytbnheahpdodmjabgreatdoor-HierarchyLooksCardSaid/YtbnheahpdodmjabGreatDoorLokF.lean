/- The law HierarchyLooks returns true at every input, and leaves its arguments as they read. No condition but the card's own: the table of math/bits starts as the program's text lays it. -/
import Derived.Test.YtbnheahpdodmjabGreatDoorCards
import Derived.Test.YtbnheahpdodmjabGreatDoorTie
import Derived.Test.YtbnheahpdodmjabGreatDoorHlG
import Derived.Test.YtbnheahpdodmjabGreatDoorInpH
import Derived.Test.YtbnheahpdodmjabGreatDoorRawP
import Derived.WalkKit
import Derived.ProofKit
import Derived.OpenShut
import Derived.Deep.DeepHandedRow
import Derived.Lib.LaidTab
open Option.some renaming inj → bj
namespace Go.Proofs.YtbnheahpdodmjabGreatDoor.hierarchyLooks
open Go.ChangeShapes Go.WideShapes Go.ChangeAt Go.RowKit
open Go.Am Go.Bm Go.BmP
set_option linter.unusedVariables false
theorem own:ownKnob Tryz.prog.godebug=none:=by kernel_rfl
theorem laidOut:laidOutB Tryz.prog=true:=by kernel_rfl
set_option maxRecDepth 100000 in
theorem opened {H:Type} {enc:TypeId × Value->H} {W:World} {v:Value} {d:DataW H} {p:List MemPlace} {base:Nat}
  (hv:Value.okWide Tryz.prog W .any base 23 v) (h:DataW.Trod enc Tryz.prog W 0 (fun _=>true) true 23 v d p) :
  ∃ a len cap zs,v=.slice a len cap/\QE .i64 W a len cap zs/\∀ x∈p,x.block<W.heap.size:=by
 obtain⟨a0,len0,cap0,rfl⟩:=okWide_slice Tryz.underlying23 hv;have k0:=h;have lt0:∀x∈p,x.block<W.heap.size:=by obtain⟨m,hm⟩:=k0; exact DataW.trod_lt m _ _ _ hm
 obtain⟨fuel,hf⟩:=h;rcases open_ints Tryz.underlying23 Tryz.underlying3 (by kernel_rfl) hf with⟨dQ,hx⟩|⟨x,l,c,zs,dQ,_,hl,hm,hz,hx,ja,hwz⟩
 ·simp[Value.cells] at dQ;obtain⟨rfl,rfl,rfl⟩:=dQ;cases hx;exact⟨none,0,0,[],rfl,.inl ⟨rfl,rfl,rfl,rfl⟩,lt0⟩
 ·simp[Value.cells] at dQ;obtain⟨rfl,rfl,rfl⟩:=dQ;cases hx;refine⟨_,_,_,zs,rfl,.inr ⟨_,rfl,hl,hm,by simpa using hz,ja,hwz⟩,lt0⟩
theorem gQc6 : Tryz.prog.globalNamed "math/bits.deBruijn64tab" = some nQc6 := by kernel_rfl
theorem agG:(Tryz.prog.globals[nQc6]?).map (·.type)=some 117:=by kernel_rfl
theorem am0:Tryz.prog.cellsOf 117=64:=by kernel_rfl
theorem am1:Tryz.prog.cellsOf 5=1:=by kernel_rfl
theorem table {W : World} (h : laidMetH Tryz.prog Rows.hierarchyLooksRow.laid W) : Lib.TabIs Tryz.prog W "math/bits.deBruijn64tab" .u8 SU :=
 by
 have k := Go.laidMetH.filter (fun x => x.1 == "math/bits.deBruijn64tab") h
 rw [show Rows.hierarchyLooksRow.laid.filter (fun x => x.1 == "math/bits.deBruijn64tab") = [("math/bits.deBruijn64tab", Rows.laid_math_bits_deBruijn64tab)] by kernel_rfl] at k
 exact Lib.tabIs_of_head (rest:=[]) gQc6 agG Tryz.underlying117 Tryz.underlying5 am1 am0 k
theorem gl {W:World} (h:laidMetH Tryz.prog Rows.hierarchyLooksRow.laid W):Am.eI (iu aq) (fun _=>False) [] W:=
 agy (g0:=nQc6) (k:=.u8) (zs:=SU) (fun g=>rfl) fun i hi=>((table h).cell gQc6 i hi).trans (by rw[List.getD_eq_getElem?_getD,List.getElem?_eq_getElem hi]; rfl)
set_option maxRecDepth 100000 in
theorem agT (H:Type) (enc:TypeId × Value->H) (W:World) (base:Nat) (args:Array Value) (ds gs:List (DataW H)) (before:List MemPlace)
  (RK:∀(j:Nat) t v,Tryz.f3.params[j]?=some t->args[j]?=some v->Value.okWide Tryz.prog W .any base t v)
  (hW:DataW.Whole enc Tryz.prog Tryz.f3.params.toList Rows.hierarchyLooksSpec.vars false W args.toList ds gs before) (hL:laidMetH Tryz.prog Rows.hierarchyLooksRow.laid W) :
  Calls Tryz.prog 3 args W fun e W'=>∃v,e=.returned v/\Rows.hierarchyLooksSpec.post enc Tryz.prog Tryz.f3 false true false false W args v W':=by
 have hW':=hW;obtain⟨p,q,hA0,hV,rfl,It,hnd⟩:=hW;have hA:DataW.TrodAll enc Tryz.prog W 0 (fun _=>true) true Tryz.f3.params.toList args.toList ds p:=hA0;rw[Tryz.params3] at hA RK;obtain⟨v0,vs0,d0,ds0,p0,q0,pK,rfl,rfl,h0,r0⟩:=trodAll_cons hA;obtain⟨v1,vs1,d1,ds1,p1,q1,rfl,rfl,rfl,h1,r1⟩:=trodAll_cons r0;obtain⟨v2,vs2,d2,ds2,p2,q2,rfl,rfl,rfl,h2,r2⟩:=trodAll_cons r1;obtain⟨v3,vs3,d3,ds3,p3,q3,rfl,rfl,rfl,h3,r3⟩:=trodAll_cons r2;obtain⟨v4,vs4,d4,ds4,p4,q4,rfl,rfl,rfl,h4,r4⟩:=trodAll_cons r3;obtain⟨v5,vs5,d5,ds5,p5,q5,rfl,rfl,rfl,h5,r5⟩:=trodAll_cons r4;obtain⟨rfl,rfl,rfl⟩:=trodAll_nil r5;obtain rfl:args=#[v0,v1,v2,v3,v4,v5]:=by cases args; simp_all
 obtain⟨rfl,rfl⟩:=trodVars_none hV;obtain⟨a0,l0,c0,Z0,rfl,w0,lt0⟩:=afj Tryz.underlying22 Tryz.underlying26 (by kernel_rfl) (by rfl) (by rfl) (by rfl) (by kernel_rfl) (by kernel_rfl) (by kernel_rfl) Tryz.underlying3 Tryz.underlying3 Tryz.underlying23 Tryz.underlying3 (by kernel_rfl) (RK 0 22 v0 rfl rfl) h0;obtain⟨a1,l1,c1,z1,rfl,w1,lt1⟩:=opened (RK 1 23 v1 rfl rfl) h1;obtain⟨z2,rfl,rfl,rfl,wz2⟩:=open_int Tryz.underlying3 (RK 2 3 v2 rfl rfl) h2;obtain⟨z3,rfl,rfl,rfl,wz3⟩:=open_int Tryz.underlying3 (RK 3 3 v3 rfl rfl) h3;obtain⟨z4,rfl,rfl,rfl,wz4⟩:=open_int Tryz.underlying3 (RK 4 3 v4 rfl rfl) h4;obtain⟨z5,rfl,rfl,rfl,wz5⟩:=open_int Tryz.underlying3 (RK 5 3 v5 rfl rfl) h5;clear hA0;simp only[List.append_nil] at hW';have hc:=V3 YG ajB ajA (show aq.fn nQa=_ from sQa) rfl (X4 Z0 (z1.take l1) z2 z3 z4 z5 (alD w0).2 (akZ w1)) rfl (rI.cons (alE w0) (rI.cons (adZ w1) (rI.cons (.int _ _ _) (rI.cons (.int _ _ _) (rI.cons (.int _ _ _) (rI.cons (.int _ _ _) rI.nil)))))) (gl hL);refine hc.mono fun e W' ⟨he,bel⟩=>?_;subst he;exact⟨_,rfl,_,_,_,[],_,[],hW',trodAll_mk1 (shut_bool Tryz.underlying4 _),(trodAll_cons_mk (Below.trod laidOut (by kernel_rfl) (of_decide_eq_true (by kernel_rfl)) h0 bel lt0) (trodAll_cons_mk (Below.trod laidOut (by kernel_rfl) (of_decide_eq_true (by kernel_rfl)) h1 bel lt1) (trodAll_cons_mk (shut_int Tryz.underlying3 wz2) (trodAll_cons_mk (shut_int Tryz.underlying3 wz3) (trodAll_cons_mk (shut_int Tryz.underlying3 wz4) (trodAll_cons_mk (shut_int Tryz.underlying3 wz5) trodAll_mk0)))))),rfl,bel.frame _,fun h=>by cases h⟩
def anm:List Int:=[0,1,28,2,29,14,24,3,30,22,20,15,25,17,4,8,31,27,13,23,21,19,16,7,26,12,18,6,11,5,10,9]
def ann:List Int:=[1,10,100,1000,10000,100000,1000000,10000000,100000000,1000000000,10000000000,100000000000,1000000000000,10000000000000,100000000000000,1000000000000000,10000000000000000,100000000000000000,1000000000000000000,10000000000000000000]
/-- A world for the witness: the tables hold what their initialisers lay. -/
noncomputable def Gj (os:Os):World:=
 { World.holding Tryz.prog os ⟨#[],#[],[]⟩ with heap:=((((World.holding Tryz.prog os ⟨#[],#[],[]⟩).heap.modify 2 fun
   |.cells _ t frozen=>.cells (anm.map (Value.int .u8)).toArray t frozen
   |o=>o).modify nQc6 fun
   |.cells _ t frozen=>.cells (SU.map (Value.int .u8)).toArray t frozen
   |o=>o).modify 1 fun
   |.cells _ t frozen=>.cells (ann.map (Value.int .u64)).toArray t frozen
   |o=>o) }
theorem af4 (os:Os):laidMet Tryz.prog Rows.hierarchyLooksRow.laid ((Gj os).forCall (fun _ _=>0) ⟨#[],#[.slice none 0 0,.slice none 0 0,.int .i64 0,.int .i64 0,.int .i64 0,.int .i64 0],[]⟩).memory:=
 laidMet_of_run' 8 (by kernel_rfl) (by kernel_rfl)
theorem reads (os:Os) {H:Type} (enc:TypeId × Value->H):∃places,DataW.whole enc Tryz.prog ((Gj os).forCall (fun _ _=>0) ⟨#[],#[.slice none 0 0,.slice none 0 0,.int .i64 0,.int .i64 0,.int .i64 0,.int .i64 0],[]⟩).memory Tryz.f3.params.toList Rows.hierarchyLooksSpec.vars false #[Value.slice none 0 0,Value.slice none 0 0,Value.int .i64 0,Value.int .i64 0,Value.int .i64 0,Value.int .i64 0].toList 8=some ([.nil,.nil,.lit (.int .i64 0),.lit (.int .i64 0),.lit (.int .i64 0),.lit (.int .i64 0)],[],places):=
 ⟨[],by kernel_rfl⟩
set_option maxRecDepth 100000 in
theorem lifted (os:Os) (started:os.Started) (H:Type) (enc:TypeId × Value->H) (F:Stop.Interp) :
  ReturnsInHanded {} Tryz.checked os 3 .any ((OpenSpec.ofChange Rows.hierarchyLooksSpec).preRow enc Tryz.prog Tryz.f3 Rows.hierarchyLooksRow.domain false Rows.hierarchyLooksRow.laid) (((OpenSpec.ofChange Rows.hierarchyLooksSpec).at F).post enc Tryz.prog Tryz.f3 false true false false):=by
 obtain⟨places,hx⟩:=reads os enc
 refine returnsInHanded_of_row (C:=Tryz.checked) (s:=OpenSpec.ofChange Rows.hierarchyLooksSpec) own started (by kernel_rfl) Tryz.func3
  (witness_row_at (enc:=enc) (C:=Tryz.checked) false (Gj os) #[.slice none 0 0,.slice none 0 0,.int .i64 0,.int .i64 0,.int .i64 0,.int .i64 0] rfl (by kernel_rfl) (by kernel_rfl) (by kernel_rfl)
   (OpenSpec.preRow_of_cond 8 hx (by kernel_rfl) (fun k hk=>by cases hk) (by kernel_rfl) (af4 os))) ?_
 intro W base args ds gs before RK hW _ _ _ hL _ _;exact agT H enc W base args ds gs before RK hW hL
theorem said:Rows.HierarchyLooksSaid:=
 OpenClaim.holds_of_cond 3 Tryz.f3 rfl rfl rfl rfl rfl rfl rfl ⟨rfl,rfl,rfl,rfl,rfl⟩ rfl rfl rfl rfl rfl (by kernel_rfl) Tryz.func3 (by kernel_rfl)
  (of_decide_eq_true (by kernel_rfl)) (by unfold Func.isWrapper; first|(rw[if_pos (by decide +kernel)]; kernel_rfl)|(rw[if_neg (by decide +kernel)]; exact⟨rfl,rfl⟩))
  (fun os started H enc _ F=>by rw[OpenClaim.pre_eq_preRow]; exact lifted os started H enc F)
theorem plain (f : FuncId) (fn : Func) (hf : Tryz.pinned.checked.prog.funcNamed "cohesion/cohesionlaw18.HierarchyLooks" = some f) (hfn : Tryz.pinned.checked.prog.funcs[f]? = some fn) :
  false=Tryz.pinned.checked.prog.looks []/\∀ (j:Nat) t,fn.params[j]?=some t->Tryz.pinned.checked.prog.wantsStandIn t=false:=by
 obtain rfl : f = 3 := bj ((show Tryz.prog.funcNamed "cohesion/cohesionlaw18.HierarchyLooks" = some 3 by kernel_rfl).symm.trans hf) |>.symm
 obtain rfl:fn=Tryz.f3:=(bj (Tryz.func3.symm.trans hfn)).symm;refine⟨by kernel_rfl,fun j t ht=>?_⟩;rw[Tryz.params3] at ht;have hm:t=22\/t=23\/t=3:=by simpa using Array.mem_of_getElem? ht
 rcases hm with rfl|rfl|rfl
 ·exact (show Tryz.prog.wantsStandIn 22=false by kernel_rfl)
 ·exact (show Tryz.prog.wantsStandIn 23=false by kernel_rfl)
 ·exact (show Tryz.prog.wantsStandIn 3=false by kernel_rfl)
theorem proved:Rows.HierarchyLooksCardSaid:=
 Claim7.holds_tied_plain_at .later [] _ _ _ _ said (fun _ h=>by cases h) (by kernel_rfl) (fun _ h=>by cases h) hierarchyLooks_row_tie rfl ⟨rfl,rfl⟩ (by kernel_rfl) rfl plain (by kernel_rfl)
#print axioms proved
end Go.Proofs.YtbnheahpdodmjabGreatDoor.hierarchyLooks
