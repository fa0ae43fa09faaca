/- The law HierarchyShares returns true at every input, and leaves its arguments as they read. No condition but the card's own: the table of math/bits starts as the program's text lays it. -/
import Derived.Test.YtpimmjklbakckaaDoorCards
import Derived.Test.YtpimmjklbakckaaDoorTie
import Derived.Test.YtpimmjklbakckaaDoorHsL
import Derived.Test.YtpimmjklbakckaaDoorInpH
import Derived.WalkKit
import Derived.ProofKit
import Derived.OpenShut
import Derived.Deep.DeepHandedRow
import Derived.Lib.LaidTab
open Option.some renaming inj → bJ
namespace Go.Proofs.YtpimmjklbakckaaDoor.hierarchyShares
open Go.ChangeShapes Go.WideShapes Go.ChangeAt Go.RowKit
open Go.Am Go.Bm Go.BmP
set_option linter.unusedVariables false
theorem own:ownKnob Tryd.prog.godebug=none:=by kernel_rfl
theorem laidOut:laidOutB Tryd.prog=true:=by kernel_rfl
set_option maxRecDepth 100000 in
theorem opened {H:Type} {enc:TypeId × Value->H} {W:World} {v:Value} {d:DataW H} {p:List MemPlace} {base:Nat}
  (hv:Value.okWide Tryd.prog W .any base 22 v) (h:DataW.Trod enc Tryd.prog W 0 (fun _=>true) true 22 v d p) :
  ∃ a len cap zs,v=.slice a len cap/\X6 .i64 W a len cap zs/\∀ x∈p,x.block<W.heap.size:=by
 obtain⟨a0,len0,cap0,rfl⟩:=okWide_slice Tryd.underlying22 hv;have k0:=h;have lt0:∀x∈p,x.block<W.heap.size:=by obtain⟨m,hm⟩:=k0; exact DataW.trod_lt m _ _ _ hm
 obtain⟨fuel,hf⟩:=h;rcases open_ints Tryd.underlying22 Tryd.underlying3 (by kernel_rfl) hf with⟨dB,hx⟩|⟨x,l,c,zs,dB,_,hl,hm,hz,hx,mY,hwz⟩
 ·simp[Value.cells] at dB;obtain⟨rfl,rfl,rfl⟩:=dB;cases hx;exact⟨none,0,0,[],rfl,.inl ⟨rfl,rfl,rfl,rfl⟩,lt0⟩
 ·simp[Value.cells] at dB;obtain⟨rfl,rfl,rfl⟩:=dB;cases hx;refine⟨_,_,_,zs,rfl,.inr ⟨_,rfl,hl,hm,by simpa using hz,mY,hwz⟩,lt0⟩
theorem gQ5 : Tryd.prog.globalNamed "math/bits.deBruijn64tab" = some nQ5 := by kernel_rfl
theorem Xj:(Tryd.prog.globals[nQ5]?).map (·.type)=some 95:=by kernel_rfl
theorem ad5:Tryd.prog.cellsOf 95=64:=by kernel_rfl
theorem ad6:Tryd.prog.cellsOf 5=1:=by kernel_rfl
theorem table {W : World} (h : laidMetH Tryd.prog Rows.hierarchySharesRow.laid W) : Lib.TabIs Tryd.prog W "math/bits.deBruijn64tab" .u8 JI :=
 by
 have k := Go.laidMetH.filter (fun x => x.1 == "math/bits.deBruijn64tab") h
 rw [show Rows.hierarchySharesRow.laid.filter (fun x => x.1 == "math/bits.deBruijn64tab") = [("math/bits.deBruijn64tab", Rows.laid_math_bits_deBruijn64tab)] by kernel_rfl] at k
 exact Lib.tabIs_of_head (rest:=[]) gQ5 Xj Tryd.underlying95 Tryd.underlying5 ad6 ad5 k
theorem gl {W:World} (h:laidMetH Tryd.prog Rows.hierarchySharesRow.laid W):Am.dD (ga aD) (fun _=>False) [] W:=
 Xb (g0:=nQ5) (k:=.u8) (zs:=JI) (fun g=>rfl) fun i hi=>((table h).cell gQ5 i hi).trans (by rw[List.getD_eq_getElem?_getD,List.getElem?_eq_getElem hi]; rfl)
set_option maxRecDepth 100000 in
theorem Xx (H:Type) (enc:TypeId × Value->H) (W:World) (base:Nat) (args:Array Value) (ds gs:List (DataW H)) (before:List MemPlace)
  (ZK:∀(j:Nat) t v,Tryd.f3.params[j]?=some t->args[j]?=some v->Value.okWide Tryd.prog W .any base t v)
  (hW:DataW.Whole enc Tryd.prog Tryd.f3.params.toList Rows.hierarchySharesSpec.vars false W args.toList ds gs before) (hL:laidMetH Tryd.prog Rows.hierarchySharesRow.laid W) :
  Calls Tryd.prog 3 args W fun e W'=>∃v,e=.returned v/\Rows.hierarchySharesSpec.post enc Tryd.prog Tryd.f3 false true false false W args v W':=by
 have hW':=hW;obtain⟨p,q,hA0,hV,rfl,Cm,hnd⟩:=hW;have hA:DataW.TrodAll enc Tryd.prog W 0 (fun _=>true) true Tryd.f3.params.toList args.toList ds p:=hA0;rw[Tryd.params3] at hA ZK;obtain⟨v0,vs0,d0,ds0,p0,q0,mE,rfl,rfl,h0,r0⟩:=trodAll_cons hA;obtain⟨rfl,rfl,rfl⟩:=trodAll_nil r0;obtain rfl:args=#[v0]:=by cases args; simp_all
 obtain⟨rfl,rfl⟩:=trodVars_none hV;obtain⟨a0,l0,c0,z0,rfl,w0,lt0⟩:=opened (ZK 0 22 v0 rfl rfl) h0;clear hA0;simp only[List.append_nil] at hW';have hc:=Mj Oz aaJ aaI (show aD.fn nQa=_ from sQa) rfl (Lu (z0.take l0) (acm w0)) rfl (si.cons (acn w0) si.nil) (gl hL);refine hc.mono fun e W' ⟨he,bel⟩=>?_;subst he;exact⟨_,rfl,_,_,_,[],_,[],hW',trodAll_mk1 (shut_bool Tryd.underlying4 _),(trodAll_cons_mk (Below.trod laidOut (by kernel_rfl) (of_decide_eq_true (by kernel_rfl)) h0 bel lt0) trodAll_mk0),rfl,bel.frame _,fun h=>by cases h⟩
def aeq:List Int:=[0,1,28,2,29,14,24,3,30,22,20,15,25,17,4,8,31,27,13,23,21,19,16,7,26,12,18,6,11,5,10,9]
def aer:List Int:=[1,10,100,1000,10000,100000,1000000,10000000,100000000,1000000000,10000000000,100000000000,1000000000000,10000000000000,100000000000000,1000000000000000,10000000000000000,100000000000000000,1000000000000000000,10000000000000000000]
/-- A world for the witness: the tables hold what their initialisers lay. -/
noncomputable def A0 (os:Os):World:=
 { World.holding Tryd.prog os ⟨#[],#[],[]⟩ with heap:=((((World.holding Tryd.prog os ⟨#[],#[],[]⟩).heap.modify 2 fun
   |.cells _ t frozen=>.cells (aeq.map (Value.int .u8)).toArray t frozen
   |o=>o).modify nQ5 fun
   |.cells _ t frozen=>.cells (JI.map (Value.int .u8)).toArray t frozen
   |o=>o).modify 1 fun
   |.cells _ t frozen=>.cells (aer.map (Value.int .u64)).toArray t frozen
   |o=>o) }
theorem Wu (os:Os):laidMet Tryd.prog Rows.hierarchySharesRow.laid ((A0 os).forCall (fun _ _=>0) ⟨#[],#[.slice none 0 0],[]⟩).memory:=
 laidMet_of_run' 8 (by kernel_rfl) (by kernel_rfl)
theorem reads (os:Os) {H:Type} (enc:TypeId × Value->H):∃places,DataW.whole enc Tryd.prog ((A0 os).forCall (fun _ _=>0) ⟨#[],#[.slice none 0 0],[]⟩).memory Tryd.f3.params.toList Rows.hierarchySharesSpec.vars false #[Value.slice none 0 0].toList 8=some ([.nil],[],places):=
 ⟨[],by kernel_rfl⟩
set_option maxRecDepth 100000 in
theorem lifted (os:Os) (started:os.Started) (H:Type) (enc:TypeId × Value->H) (F:Stop.Interp) :
  ReturnsInHanded {} Tryd.checked os 3 .any ((OpenSpec.ofChange Rows.hierarchySharesSpec).preRow enc Tryd.prog Tryd.f3 Rows.hierarchySharesRow.domain false Rows.hierarchySharesRow.laid) (((OpenSpec.ofChange Rows.hierarchySharesSpec).at F).post enc Tryd.prog Tryd.f3 false true false false):=by
 obtain⟨places,hx⟩:=reads os enc
 refine returnsInHanded_of_row (C:=Tryd.checked) (s:=OpenSpec.ofChange Rows.hierarchySharesSpec) own started (by kernel_rfl) Tryd.func3
  (witness_row_at (enc:=enc) (C:=Tryd.checked) false (A0 os) #[.slice none 0 0] rfl (by kernel_rfl) (by kernel_rfl) (by kernel_rfl)
   (OpenSpec.preRow_of_cond 8 hx (by kernel_rfl) (fun k hk=>by cases hk) (by kernel_rfl) (Wu os))) ?_
 intro W base args ds gs before ZK hW _ _ _ hL _ _;exact Xx H enc W base args ds gs before ZK hW hL
theorem said:Rows.HierarchySharesSaid:=
 OpenClaim.holds_of_cond 3 Tryd.f3 rfl rfl rfl rfl rfl rfl rfl ⟨rfl,rfl,rfl,rfl,rfl⟩ rfl rfl rfl rfl rfl (by kernel_rfl) Tryd.func3 (by kernel_rfl)
  (of_decide_eq_true (by kernel_rfl)) (by unfold Func.isWrapper; first|(rw[if_pos (by decide +kernel)]; kernel_rfl)|(rw[if_neg (by decide +kernel)]; exact⟨rfl,rfl⟩))
  (fun os started H enc _ F=>by rw[OpenClaim.pre_eq_preRow]; exact lifted os started H enc F)
theorem plain (f : FuncId) (fn : Func) (hf : Tryd.pinned.checked.prog.funcNamed "cohesion/cohesionlaw18.HierarchyShares" = some f) (hfn : Tryd.pinned.checked.prog.funcs[f]? = some fn) :
  false=Tryd.pinned.checked.prog.looks []/\∀ (j:Nat) t,fn.params[j]?=some t->Tryd.pinned.checked.prog.wantsStandIn t=false:=by
 obtain rfl : f = 3 := bJ ((show Tryd.prog.funcNamed "cohesion/cohesionlaw18.HierarchyShares" = some 3 by kernel_rfl).symm.trans hf) |>.symm
 obtain rfl:fn=Tryd.f3:=(bJ (Tryd.func3.symm.trans hfn)).symm;refine⟨by kernel_rfl,fun j t ht=>?_⟩;rw[Tryd.params3] at ht;have hm:t=22:=by simpa using Array.mem_of_getElem? ht
 subst hm;exact (show Tryd.prog.wantsStandIn 22=false by kernel_rfl)
theorem proved:Rows.HierarchySharesCardSaid:=
 Claim7.holds_tied_plain_at .later [] _ _ _ _ said (fun _ h=>by cases h) (by kernel_rfl) (fun _ h=>by cases h) hierarchyShares_row_tie rfl ⟨rfl,rfl⟩ (by kernel_rfl) rfl plain (by kernel_rfl)
#print axioms proved
end Go.Proofs.YtpimmjklbakckaaDoor.hierarchyShares
