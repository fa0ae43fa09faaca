/- The law SampleAnswers returns true at every input, and leaves its arguments as they read. No condition but the card's own: the table of math/bits starts as the program's text lays it. -/
import Derived.Test.YtmoginoicilobaaGreatDoorCards
import Derived.Test.YtmoginoicilobaaGreatDoorTie
import Derived.Test.YtmoginoicilobaaGreatDoorSaL
import Derived.Test.YtmoginoicilobaaGreatDoorInpX
import Derived.Test.YtmoginoicilobaaGreatDoorRawB
import Derived.WalkKit
import Derived.ProofKit
import Derived.OpenShut
import Derived.Deep.DeepHandedRow
import Derived.Lib.LaidTab
open Option.some renaming inj → bU
namespace Go.Proofs.YtmoginoicilobaaGreatDoor.sampleAnswers
open Go.ChangeShapes Go.WideShapes Go.ChangeAt Go.RowKit
open Go.Am Go.Bm Go.BmP
set_option linter.unusedVariables false
theorem own : ownKnob Tryz.prog.godebug = none := by kernel_rfl
theorem laidOut : laidOutB Tryz.prog = true := by kernel_rfl
set_option maxRecDepth 100000 in
theorem opened {H : Type} {enc : TypeId × Value -> H} {W : World} {v : Value} {d : DataW H} {p : List MemPlace} {base : Nat}
  (hv : Value.okWide Tryz.prog W .any base 22 v) (h : DataW.Trod enc Tryz.prog W 0 (fun _ => true) true 22 v d p) :
  ∃ a len cap zs,v = .slice a len cap /\ adA .i64 W a len cap zs /\ ∀ x ∈ p,x.block < W.heap.size := by
 obtain ⟨a0,len0,cap0,rfl⟩ := okWide_slice Tryz.underlying22 hv;have k0 := h;have lt0 : ∀ x ∈ p,x.block < W.heap.size := by obtain ⟨m,hm⟩ := k0; exact DataW.trod_lt m _ _ _ hm
 obtain ⟨fuel,hf⟩ := h;rcases open_ints Tryz.underlying22 Tryz.underlying3 (by kernel_rfl) hf with ⟨dx,hx⟩ | ⟨x,l,c,zs,dx,_,hl,hm,hz,hx,kA,hwz⟩
 ·simp [Value.cells] at dx;obtain ⟨rfl,rfl,rfl⟩ := dx;cases hx;exact ⟨none,0,0,[],rfl,.inl ⟨rfl,rfl,rfl,rfl⟩,lt0⟩
 ·simp [Value.cells] at dx;obtain ⟨rfl,rfl,rfl⟩ := dx;cases hx;refine ⟨_,_,_,zs,rfl,.inr ⟨_,rfl,hl,hm,by simpa using hz,kA,hwz⟩,lt0⟩
theorem gQd4 : Tryz.prog.globalNamed "math/bits.deBruijn64tab" = some Yi := by kernel_rfl
theorem Zo : (Tryz.prog.globals[Yi]?).map (·.type) = some 134 := by kernel_rfl
theorem afC : Tryz.prog.cellsOf 134 = 64 := by kernel_rfl
theorem afD : Tryz.prog.cellsOf 5 = 1 := by kernel_rfl
theorem table {W : World} (h : laidMetH Tryz.prog Rows.sampleAnswersRow.laid W) : Lib.TabIs Tryz.prog W "math/bits.deBruijn64tab" .u8 LG :=
 Lib.tabIs_of_head (rest := []) gQd4 Zo Tryz.underlying134 Tryz.underlying5 afD afC h
theorem gl {W : World} (h : laidMetH Tryz.prog Rows.sampleAnswersRow.laid W) : Am.dH (iW aj) (fun _ => False) [] W :=
 Zl (g0 := Yi) (k := .u8) (zs := LG) (fun g => rfl) fun i hi => ((table h).cell gQd4 i hi).trans (by rw [List.getD_eq_getElem?_getD,List.getElem?_eq_getElem hi]; rfl)
set_option maxRecDepth 100000 in
theorem ZG (H : Type) (enc : TypeId × Value -> H) (W : World) (base : Nat) (args : Array Value) (ds gs : List (DataW H)) (before : List MemPlace)
  (KT : ∀ (j : Nat) t v,Tryz.f3.params[j]? = some t -> args[j]? = some v -> Value.okWide Tryz.prog W .any base t v)
  (hW : DataW.Whole enc Tryz.prog Tryz.f3.params.toList Rows.sampleAnswersSpec.vars false W args.toList ds gs before) (hL : laidMetH Tryz.prog Rows.sampleAnswersRow.laid W) :
  Calls Tryz.prog 3 args W fun e W' => ∃ v,e = .returned v /\ Rows.sampleAnswersSpec.post enc Tryz.prog Tryz.f3 false true false false W args v W' := by
 have hW' := hW;obtain ⟨p,q,hA0,hV,rfl,C9,hnd⟩ := hW;have hA : DataW.TrodAll enc Tryz.prog W 0 (fun _ => true) true Tryz.f3.params.toList args.toList ds p := hA0;rw [Tryz.params3] at hA KT;obtain ⟨v0,vs0,d0,ds0,p0,q0,my,rfl,rfl,h0,r0⟩ := trodAll_cons hA;obtain ⟨v1,vs1,d1,ds1,p1,q1,rfl,rfl,rfl,h1,r1⟩ := trodAll_cons r0;obtain ⟨v2,vs2,d2,ds2,p2,q2,rfl,rfl,rfl,h2,r2⟩ := trodAll_cons r1;obtain ⟨v3,vs3,d3,ds3,p3,q3,rfl,rfl,rfl,h3,r3⟩ := trodAll_cons r2;obtain ⟨v4,vs4,d4,ds4,p4,q4,rfl,rfl,rfl,h4,r4⟩ := trodAll_cons r3;obtain ⟨v5,vs5,d5,ds5,p5,q5,rfl,rfl,rfl,h5,r5⟩ := trodAll_cons r4;obtain ⟨rfl,rfl,rfl⟩ := trodAll_nil r5;obtain rfl : args = #[v0,v1,v2,v3,v4,v5] := by cases args; simp_all
 obtain ⟨rfl,rfl⟩ := trodVars_none hV;obtain ⟨a0,l0,c0,z0,rfl,w0,lt0⟩ := opened (KT 0 22 v0 rfl rfl) h0;obtain ⟨a1,l1,c1,z1,rfl,w1,lt1⟩ := opened (KT 1 22 v1 rfl rfl) h1;obtain ⟨n2,a2,l2,c2,E2,rfl,w2,wn2,lt2⟩ := O9 Tryz.underlying25 (by kernel_rfl) (by rfl) (by rfl) (by kernel_rfl) (by kernel_rfl) Tryz.underlying3 Tryz.underlying23 Tryz.underlying60 (by kernel_rfl) (by rfl) (by rfl) (by kernel_rfl) (by kernel_rfl) Tryz.underlying3 Tryz.underlying3 (KT 2 25 v2 rfl rfl) h2;obtain ⟨a3,l3,c3,Q3,rfl,w3,lt3⟩ := XU Tryz.underlying26 Tryz.underlying4 (by kernel_rfl) (KT 3 26 v3 rfl rfl) h3;obtain ⟨z4,rfl,rfl,rfl,wz4⟩ := open_int Tryz.underlying3 (KT 4 3 v4 rfl rfl) h4;obtain ⟨z5,rfl,rfl,rfl,wz5⟩ := open_int Tryz.underlying3 (KT 5 3 v5 rfl rfl) h5;clear hA0;simp only [List.append_nil] at hW';have hc := NO afB ab1 ab0 (show aj.fn nQa = _ from sQa) rfl (Wq (z0.take l0) (z1.take l1) n2 E2 Q3 z4 z5) rfl (pY.cons (WA w0) (pY.cons (WA w1) (pY.cons (Zi w2) (pY.cons (afH w3) (pY.cons (.int _ _ _) (pY.cons (.int _ _ _) pY.nil)))))) (gl hL);refine hc.mono fun e W' ⟨he,bel⟩ => ?_;subst he;exact ⟨_,rfl,_,_,_,[],_,[],hW',trodAll_mk1 (shut_bool Tryz.underlying4 _),(trodAll_cons_mk (Below.trod laidOut (by kernel_rfl) (of_decide_eq_true (by kernel_rfl)) h0 bel lt0) (trodAll_cons_mk (Below.trod laidOut (by kernel_rfl) (of_decide_eq_true (by kernel_rfl)) h1 bel lt1) (trodAll_cons_mk (Below.trod laidOut (by kernel_rfl) (of_decide_eq_true (by kernel_rfl)) h2 bel lt2) (trodAll_cons_mk (Below.trod laidOut (by kernel_rfl) (of_decide_eq_true (by kernel_rfl)) h3 bel lt3) (trodAll_cons_mk (shut_int Tryz.underlying3 wz4) (trodAll_cons_mk (shut_int Tryz.underlying3 wz5) trodAll_mk0)))))),rfl,bel.frame _,fun h => by cases h⟩
/-- A world for the witness: the table holds what its initialiser lays. -/
noncomputable def Bd (os : Os) : World :=
 { World.holding Tryz.prog os ⟨#[],#[],[]⟩ with heap := (World.holding Tryz.prog os ⟨#[],#[],[]⟩).heap.modify Yi fun
   | .cells _ t frozen => .cells (LG.map (Value.int .u8)).toArray t frozen
   | o => o }
theorem YC (os : Os) : laidMet Tryz.prog Rows.sampleAnswersRow.laid ((Bd os).forCall (fun _ _ => 0) ⟨#[],#[.slice none 0 0,.slice none 0 0,.agg #[.int .i64 0,.slice none 0 0],.slice none 0 0,.int .i64 0,.int .i64 0],[]⟩).memory :=
 laidMet_of_run' 8 (by kernel_rfl) (by kernel_rfl)
theorem reads (os : Os) {H : Type} (enc : TypeId × Value -> H) : ∃ places,DataW.whole enc Tryz.prog ((Bd os).forCall (fun _ _ => 0) ⟨#[],#[.slice none 0 0,.slice none 0 0,.agg #[.int .i64 0,.slice none 0 0],.slice none 0 0,.int .i64 0,.int .i64 0],[]⟩).memory Tryz.f3.params.toList Rows.sampleAnswersSpec.vars false #[Value.slice none 0 0,Value.slice none 0 0,Value.agg #[.int .i64 0,.slice none 0 0],Value.slice none 0 0,Value.int .i64 0,Value.int .i64 0].toList 8 = some ([.nil,.nil,.agg [.lit (.int .i64 0),.nil],.nil,.lit (.int .i64 0),.lit (.int .i64 0)],[],places) :=
 ⟨[],by kernel_rfl⟩
set_option maxRecDepth 100000 in
theorem lifted (os : Os) (started : os.Started) (H : Type) (enc : TypeId × Value -> H) (F : Stop.Interp) :
  ReturnsInHanded {} Tryz.checked os 3 .any ((OpenSpec.ofChange Rows.sampleAnswersSpec).preRow enc Tryz.prog Tryz.f3 Rows.sampleAnswersRow.domain false Rows.sampleAnswersRow.laid) (((OpenSpec.ofChange Rows.sampleAnswersSpec).at F).post enc Tryz.prog Tryz.f3 false true false false) := by
 obtain ⟨places,hx⟩ := reads os enc
 refine returnsInHanded_of_row (C := Tryz.checked) (s := OpenSpec.ofChange Rows.sampleAnswersSpec) own started (by kernel_rfl) Tryz.func3
  (witness_row_at (enc := enc) (C := Tryz.checked) false (Bd os) #[.slice none 0 0,.slice none 0 0,.agg #[.int .i64 0,.slice none 0 0],.slice none 0 0,.int .i64 0,.int .i64 0] rfl (by kernel_rfl) (by kernel_rfl) (by kernel_rfl)
   (OpenSpec.preRow_of_cond 8 hx (by kernel_rfl) (fun k hk => by cases hk) (by kernel_rfl) (YC os))) ?_
 intro W base args ds gs before KT hW _ _ _ hL _ _;exact ZG H enc W base args ds gs before KT hW hL
theorem said : Rows.SampleAnswersSaid :=
 OpenClaim.holds_of_cond 3 Tryz.f3 rfl rfl rfl rfl rfl rfl rfl ⟨rfl,rfl,rfl,rfl,rfl⟩ rfl rfl rfl rfl rfl (by kernel_rfl) Tryz.func3 (by kernel_rfl)
  (of_decide_eq_true (by kernel_rfl)) (by unfold Func.isWrapper; first | (rw [if_pos (by decide +kernel)]; kernel_rfl) | (rw [if_neg (by decide +kernel)]; exact ⟨rfl,rfl⟩))
  (fun os started H enc _ F => by rw [OpenClaim.pre_eq_preRow]; exact lifted os started H enc F)
theorem plain (f : FuncId) (fn : Func) (hf : Tryz.pinned.checked.prog.funcNamed "cohesion/cohesionlaw33.SampleAnswers" = some f) (hfn : Tryz.pinned.checked.prog.funcs[f]? = some fn) :
  false = Tryz.pinned.checked.prog.looks [] /\ ∀ (j : Nat) t,fn.params[j]? = some t -> Tryz.pinned.checked.prog.wantsStandIn t = false := by
 obtain rfl : f = 3 := bU ((show Tryz.prog.funcNamed "cohesion/cohesionlaw33.SampleAnswers" = some 3 by kernel_rfl).symm.trans hf) |>.symm
 obtain rfl : fn = Tryz.f3 := (bU (Tryz.func3.symm.trans hfn)).symm;refine ⟨by kernel_rfl,fun j t ht => ?_⟩;rw [Tryz.params3] at ht;have hm : t = 22 \/ t = 25 \/ t = 26 \/ t = 3 := by simpa using Array.mem_of_getElem? ht
 rcases hm with rfl | rfl | rfl | rfl
 ·exact (show Tryz.prog.wantsStandIn 22 = false by kernel_rfl)
 ·exact (show Tryz.prog.wantsStandIn 25 = false by kernel_rfl)
 ·exact (show Tryz.prog.wantsStandIn 26 = false by kernel_rfl)
 ·exact (show Tryz.prog.wantsStandIn 3 = false by kernel_rfl)
theorem proved : Rows.SampleAnswersCardSaid :=
 Claim7.holds_tied_plain_at .later [] _ _ _ _ said (fun _ h => by cases h) (by kernel_rfl) (fun _ h => by cases h) sampleAnswers_row_tie rfl ⟨rfl,rfl⟩ (by kernel_rfl) rfl plain (by kernel_rfl)
#print axioms proved
end Go.Proofs.YtmoginoicilobaaGreatDoor.sampleAnswers
