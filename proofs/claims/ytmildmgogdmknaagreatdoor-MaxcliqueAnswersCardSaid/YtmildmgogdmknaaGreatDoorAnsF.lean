/- The law MaxcliqueAnswers returns true at every input, and leaves its arguments as they read. No condition but the card's own: the table of math/bits starts as the program's text lays it. -/
import Derived.Test.YtmildmgogdmknaaGreatDoorCards
import Derived.Test.YtmildmgogdmknaaGreatDoorTie
import Derived.Test.YtmildmgogdmknaaGreatDoorMqL
import Derived.Test.YtmildmgogdmknaaGreatDoorInpV
import Derived.Test.YtmildmgogdmknaaGreatDoorRawG
import Derived.WalkKit
import Derived.ProofKit
import Derived.OpenShut
import Derived.Deep.DeepHandedRow
import Derived.Lib.LaidTab
open Option.some renaming inj → dv
namespace Go.Proofs.YtmildmgogdmknaaGreatDoor.maxcliqueAnswers
open Go.ChangeShapes Go.WideShapes Go.ChangeAt Go.RowKit
open Go.Am Go.Bm Go.BmP
set_option linter.unusedVariables false
theorem own:ownKnob Tryz.prog.godebug=none:=by kernel_rfl
theorem laidOut:laidOutB Tryz.prog=true:=by kernel_rfl
set_option maxRecDepth 100000 in
theorem opened {H:Type} {enc:TypeId × Value->H} {W:World} {v:Value} {d:DataW H} {p:List MemPlace} {base:Nat}
  (hv:Value.okWide Tryz.prog W .any base 22 v) (h:DataW.Trod enc Tryz.prog W 0 (fun _=>true) true 22 v d p) :
  ∃ a len cap zs,v=.slice a len cap/\ajy .i64 W a len cap zs/\∀ x∈p,x.block<W.heap.size:=by
 obtain⟨a0,len0,cap0,rfl⟩:=okWide_slice Tryz.underlying22 hv;have k0:=h;have lt0:∀x∈p,x.block<W.heap.size:=by obtain⟨m,hm⟩:=k0; exact DataW.trod_lt m _ _ _ hm
 obtain⟨fuel,hf⟩:=h;rcases open_ints Tryz.underlying22 Tryz.underlying3 (by kernel_rfl) hf with⟨eM,hx⟩|⟨x,l,c,zs,eM,_,hl,hm,hz,hx,kQ,hwz⟩
 ·simp[Value.cells] at eM;obtain⟨rfl,rfl,rfl⟩:=eM;cases hx;exact⟨none,0,0,[],rfl,.inl ⟨rfl,rfl,rfl,rfl⟩,lt0⟩
 ·simp[Value.cells] at eM;obtain⟨rfl,rfl,rfl⟩:=eM;cases hx;refine⟨_,_,_,zs,rfl,.inr ⟨_,rfl,hl,hm,by simpa using hz,kQ,hwz⟩,lt0⟩
theorem gQd5 : Tryz.prog.globalNamed "math/bits.deBruijn64tab" = some nQd5 := by kernel_rfl
theorem ae7:(Tryz.prog.globals[nQd5]?).map (·.type)=some 82:=by kernel_rfl
theorem al1:Tryz.prog.cellsOf 82=64:=by kernel_rfl
theorem al2:Tryz.prog.cellsOf 5=1:=by kernel_rfl
theorem table {W : World} (h : laidMetH Tryz.prog Rows.maxcliqueAnswersRow.laid W) : Lib.TabIs Tryz.prog W "math/bits.deBruijn64tab" .u8 Sz :=
 Lib.tabIs_of_head (rest:=[]) gQd5 ae7 Tryz.underlying82 Tryz.underlying5 al2 al1 h
theorem gl {W:World} (h:laidMetH Tryz.prog Rows.maxcliqueAnswersRow.laid W):Am.e9 (ju aq) (fun _=>False) [] W:=
 ae5 (g0:=nQd5) (k:=.u8) (zs:=Sz) (fun g=>rfl) fun i hi=>((table h).cell gQd5 i hi).trans (by rw[List.getD_eq_getElem?_getD,List.getElem?_eq_getElem hi]; rfl)
set_option maxRecDepth 100000 in
theorem afl (H:Type) (enc:TypeId × Value->H) (W:World) (base:Nat) (args:Array Value) (ds gs:List (DataW H)) (before:List MemPlace)
  (W6:∀(j:Nat) t v,Tryz.f3.params[j]?=some t->args[j]?=some v->Value.okWide Tryz.prog W .any base t v)
  (hW:DataW.Whole enc Tryz.prog Tryz.f3.params.toList Rows.maxcliqueAnswersSpec.vars false W args.toList ds gs before) (hL:laidMetH Tryz.prog Rows.maxcliqueAnswersRow.laid W) :
  Calls Tryz.prog 3 args W fun e W'=>∃v,e=.returned v/\Rows.maxcliqueAnswersSpec.post enc Tryz.prog Tryz.f3 false true false false W args v W':=by
 have hW':=hW;obtain⟨p,q,hA0,hV,rfl,E5,hnd⟩:=hW;have hA:DataW.TrodAll enc Tryz.prog W 0 (fun _=>true) true Tryz.f3.params.toList args.toList ds p:=hA0;rw[Tryz.params3] at hA W6;obtain⟨v0,vs0,d0,ds0,p0,q0,nN,rfl,rfl,h0,r0⟩:=trodAll_cons hA;obtain⟨v1,vs1,d1,ds1,p1,q1,rfl,rfl,rfl,h1,r1⟩:=trodAll_cons r0;obtain⟨v2,vs2,d2,ds2,p2,q2,rfl,rfl,rfl,h2,r2⟩:=trodAll_cons r1;obtain⟨v3,vs3,d3,ds3,p3,q3,rfl,rfl,rfl,h3,r3⟩:=trodAll_cons r2;obtain⟨rfl,rfl,rfl⟩:=trodAll_nil r3;obtain rfl:args=#[v0,v1,v2,v3]:=by cases args; simp_all
 obtain⟨rfl,rfl⟩:=trodVars_none hV;obtain⟨a0,l0,c0,z0,rfl,w0,lt0⟩:=opened (W6 0 22 v0 rfl rfl) h0;obtain⟨a1,l1,c1,z1,rfl,w1,lt1⟩:=opened (W6 1 22 v1 rfl rfl) h1;obtain⟨n2,a2,l2,c2,E2,rfl,w2,wn2,lt2⟩:=WC Tryz.underlying25 (by kernel_rfl) (by rfl) (by rfl) (by kernel_rfl) (by kernel_rfl) Tryz.underlying3 Tryz.underlying23 Tryz.underlying51 (by kernel_rfl) (by rfl) (by rfl) (by kernel_rfl) (by kernel_rfl) Tryz.underlying3 Tryz.underlying3 (W6 2 25 v2 rfl rfl) h2;obtain⟨z3,rfl,rfl,rfl,wz3⟩:=open_int Tryz.underlying3 (W6 3 3 v3 rfl rfl) h3;clear hA0;simp only[List.append_nil] at hW';have hc:=VA al0 ah2 ah1 (show aq.fn nQa=_ from sQa) rfl (aex (z0.take l0) (z1.take l1) n2 E2 z3) rfl (tC.cons (acw w0) (tC.cons (acw w1) (tC.cons (ae4 w2) (tC.cons (.int _ _ _) tC.nil)))) (gl hL);refine hc.mono fun e W' ⟨he,bel⟩=>?_;subst he;exact⟨_,rfl,_,_,_,[],_,[],hW',trodAll_mk1 (shut_bool Tryz.underlying4 _),(trodAll_cons_mk (Below.trod laidOut (by kernel_rfl) (of_decide_eq_true (by kernel_rfl)) h0 bel lt0) (trodAll_cons_mk (Below.trod laidOut (by kernel_rfl) (of_decide_eq_true (by kernel_rfl)) h1 bel lt1) (trodAll_cons_mk (Below.trod laidOut (by kernel_rfl) (of_decide_eq_true (by kernel_rfl)) h2 bel lt2) (trodAll_cons_mk (shut_int Tryz.underlying3 wz3) trodAll_mk0)))),rfl,bel.frame _,fun h=>by cases h⟩
/-- A world for the witness: the table holds what its initialiser lays. -/
noncomputable def Gg (os:Os):World:=
 { World.holding Tryz.prog os ⟨#[],#[],[]⟩ with heap:=(World.holding Tryz.prog os ⟨#[],#[],[]⟩).heap.modify nQd5 fun
   |.cells _ t frozen=>.cells (Sz.map (Value.int .u8)).toArray t frozen
   |o=>o }
theorem aeK (os:Os):laidMet Tryz.prog Rows.maxcliqueAnswersRow.laid ((Gg os).forCall (fun _ _=>0) ⟨#[],#[.slice none 0 0,.slice none 0 0,.agg #[.int .i64 0,.slice none 0 0],.int .i64 0],[]⟩).memory:=
 laidMet_of_run' 8 (by kernel_rfl) (by kernel_rfl)
theorem reads (os:Os) {H:Type} (enc:TypeId × Value->H):∃places,DataW.whole enc Tryz.prog ((Gg os).forCall (fun _ _=>0) ⟨#[],#[.slice none 0 0,.slice none 0 0,.agg #[.int .i64 0,.slice none 0 0],.int .i64 0],[]⟩).memory Tryz.f3.params.toList Rows.maxcliqueAnswersSpec.vars false #[Value.slice none 0 0,Value.slice none 0 0,Value.agg #[.int .i64 0,.slice none 0 0],Value.int .i64 0].toList 8=some ([.nil,.nil,.agg [.lit (.int .i64 0),.nil],.lit (.int .i64 0)],[],places):=
 ⟨[],by kernel_rfl⟩
set_option maxRecDepth 100000 in
theorem lifted (os:Os) (started:os.Started) (H:Type) (enc:TypeId × Value->H) (F:Stop.Interp) :
  ReturnsInHanded {} Tryz.checked os 3 .any ((OpenSpec.ofChange Rows.maxcliqueAnswersSpec).preRow enc Tryz.prog Tryz.f3 Rows.maxcliqueAnswersRow.domain false Rows.maxcliqueAnswersRow.laid) (((OpenSpec.ofChange Rows.maxcliqueAnswersSpec).at F).post enc Tryz.prog Tryz.f3 false true false false):=by
 obtain⟨places,hx⟩:=reads os enc
 refine returnsInHanded_of_row (C:=Tryz.checked) (s:=OpenSpec.ofChange Rows.maxcliqueAnswersSpec) own started (by kernel_rfl) Tryz.func3
  (witness_row_at (enc:=enc) (C:=Tryz.checked) false (Gg os) #[.slice none 0 0,.slice none 0 0,.agg #[.int .i64 0,.slice none 0 0],.int .i64 0] rfl (by kernel_rfl) (by kernel_rfl) (by kernel_rfl)
   (OpenSpec.preRow_of_cond 8 hx (by kernel_rfl) (fun k hk=>by cases hk) (by kernel_rfl) (aeK os))) ?_
 intro W base args ds gs before W6 hW _ _ _ hL _ _;exact afl H enc W base args ds gs before W6 hW hL
theorem said:Rows.MaxcliqueAnswersSaid:=
 OpenClaim.holds_of_cond 3 Tryz.f3 rfl rfl rfl rfl rfl rfl rfl ⟨rfl,rfl,rfl,rfl,rfl⟩ rfl rfl rfl rfl rfl (by kernel_rfl) Tryz.func3 (by kernel_rfl)
  (of_decide_eq_true (by kernel_rfl)) (by unfold Func.isWrapper; first|(rw[if_pos (by decide +kernel)]; kernel_rfl)|(rw[if_neg (by decide +kernel)]; exact⟨rfl,rfl⟩))
  (fun os started H enc _ F=>by rw[OpenClaim.pre_eq_preRow]; exact lifted os started H enc F)
theorem plain (f : FuncId) (fn : Func) (hf : Tryz.pinned.checked.prog.funcNamed "cohesion/cohesionlaw26.MaxcliqueAnswers" = some f) (hfn : Tryz.pinned.checked.prog.funcs[f]? = some fn) :
  false=Tryz.pinned.checked.prog.looks []/\∀ (j:Nat) t,fn.params[j]?=some t->Tryz.pinned.checked.prog.wantsStandIn t=false:=by
 obtain rfl : f = 3 := dv ((show Tryz.prog.funcNamed "cohesion/cohesionlaw26.MaxcliqueAnswers" = some 3 by kernel_rfl).symm.trans hf) |>.symm
 obtain rfl:fn=Tryz.f3:=(dv (Tryz.func3.symm.trans hfn)).symm;refine⟨by kernel_rfl,fun j t ht=>?_⟩;rw[Tryz.params3] at ht;have hm:t=22\/t=25\/t=3:=by simpa using Array.mem_of_getElem? ht
 rcases hm with rfl|rfl|rfl
 ·exact (show Tryz.prog.wantsStandIn 22=false by kernel_rfl)
 ·exact (show Tryz.prog.wantsStandIn 25=false by kernel_rfl)
 ·exact (show Tryz.prog.wantsStandIn 3=false by kernel_rfl)
theorem proved:Rows.MaxcliqueAnswersCardSaid:=
 Claim7.holds_tied_plain_at .later [] _ _ _ _ said (fun _ h=>by cases h) (by kernel_rfl) (fun _ h=>by cases h) maxcliqueAnswers_row_tie rfl ⟨rfl,rfl⟩ (by kernel_rfl) rfl plain (by kernel_rfl)
#print axioms proved
end Go.Proofs.YtmildmgogdmknaaGreatDoor.maxcliqueAnswers
