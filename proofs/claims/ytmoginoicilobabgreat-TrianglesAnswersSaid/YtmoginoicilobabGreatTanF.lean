/- The law TrianglesAnswers returns true and leaves its arguments as they read. No other condition. -/
import Derived.Test.YtmoginoicilobabGreatRows
import Derived.Test.YtmoginoicilobabGreatTaL
import Derived.Test.YtmoginoicilobabGreatInpK
import Derived.Test.YtmoginoicilobabGreatRawT
import Derived.WalkKit
import Derived.ProofKit
import Derived.OpenShut
import Derived.JoinedCond
import Derived.Deep.DeepHandedRow
namespace Go.Proofs.YtmoginoicilobabGreat.trianglesAnswers
open Go.ChangeShapes Go.WideShapes Go.ChangeAt Go.RowKit
open Go.Am Go.Bm Go.BmP
set_option linter.unusedVariables false
theorem own : ownKnob Tryz.prog.godebug = none := by kernel_rfl
theorem laidOut : laidOutB Tryz.prog = true := by kernel_rfl
set_option maxRecDepth 100000 in
theorem opened {H : Type} {enc : TypeId × Value -> H} {W : World} {v : Value} {d : DataW H} {p : List MemPlace} {base : Nat}
  (hv : Value.okWide Tryz.prog W .any base 22 v) (h : DataW.Trod enc Tryz.prog W 0 (fun _ => true) true 22 v d p) :
  ∃ a len cap zs,v = .slice a len cap /\ Pm .i64 W a len cap zs /\ True /\ ∀ x ∈ p,x.block < W.heap.size := by
 obtain ⟨a0,len0,cap0,rfl⟩ := okWide_slice Tryz.underlying22 hv;have k0 := h;have lt0 : ∀ x ∈ p,x.block < W.heap.size := by obtain ⟨m,hm⟩ := k0; exact DataW.trod_lt m _ _ _ hm
 obtain ⟨fuel,hf⟩ := h;rcases open_ints Tryz.underlying22 Tryz.underlying3 (by kernel_rfl) hf with ⟨dC,hx⟩ | ⟨x,l,c,zs,dC,_,hl,hm,hz,hx,fQ,hwz⟩
 ·simp [Value.cells] at dC;obtain ⟨rfl,rfl,rfl⟩ := dC;cases hx;exact ⟨none,0,0,[],rfl,.inl ⟨rfl,rfl,rfl,rfl⟩,trivial,lt0⟩
 ·simp [Value.cells] at dC;obtain ⟨rfl,rfl,rfl⟩ := dC;cases hx;refine ⟨_,_,_,zs,rfl,.inr ⟨_,rfl,hl,hm,by simpa using hz,fQ,hwz⟩,trivial,lt0⟩
set_option maxRecDepth 100000 in
theorem aaJ (H : Type) (enc : TypeId × Value -> H) (W : World) (base : Nat) (args : Array Value) (ds gs : List (DataW H)) (before : List MemPlace)
  (aeJ : ∀ (j : Nat) t v,Tryz.f3.params[j]? = some t -> args[j]? = some v -> Value.okWide Tryz.prog W .any base t v)
  (hW : DataW.Whole enc Tryz.prog Tryz.f3.params.toList Rows.trianglesAnswersSpec.vars false W args.toList ds gs before) :
  Calls Tryz.prog 3 args W fun e W' => ∃ v,e = .returned v /\ Rows.trianglesAnswersSpec.post enc Tryz.prog Tryz.f3 false true false false W args v W' := by
 have QP : ∀ (j : Nat) t v,Tryz.f3.params[j]? = some t -> args[j]? = some v -> Value.okWide Tryz.prog W .any base t v := aeJ;have hW' := hW;obtain ⟨p,q,hA0,hV,rfl,AP,hnd⟩ := hW;have hA : DataW.TrodAll enc Tryz.prog W 0 (fun _ => true) true Tryz.f3.params.toList args.toList ds p := hA0;rw [Tryz.params3] at hA QP;obtain ⟨v0,vs0,d0,ds0,p0,q0,ke,rfl,rfl,h0,r0⟩ := trodAll_cons hA;obtain ⟨v1,vs1,d1,ds1,p1,q1,rfl,rfl,rfl,h1,r1⟩ := trodAll_cons r0;obtain ⟨v2,vs2,d2,ds2,p2,q2,rfl,rfl,rfl,h2,r2⟩ := trodAll_cons r1;obtain ⟨v3,vs3,d3,ds3,p3,q3,rfl,rfl,rfl,h3,r3⟩ := trodAll_cons r2;obtain ⟨rfl,rfl,rfl⟩ := trodAll_nil r3;obtain rfl : args = #[v0,v1,v2,v3] := by cases args; simp_all
 obtain ⟨rfl,rfl⟩ := trodVars_none hV;obtain ⟨a0,l0,c0,z0,rfl,w0,b0,lt0⟩ := opened (QP 0 22 v0 rfl rfl) h0;obtain ⟨n1,a1,l1,c1,E1,C1,b1,m1,k1,y1,rfl,w1,x1,wn1,wc1,lt1⟩ := Zr Tryz.underlying27 (by kernel_rfl) (by rfl) (by rfl) (by rfl) (by kernel_rfl) (by kernel_rfl) (by kernel_rfl) Tryz.underlying25 (by rfl) (by rfl) (by kernel_rfl) (by kernel_rfl) Tryz.underlying3 Tryz.underlying23 Tryz.underlying60 (by kernel_rfl) (by rfl) (by rfl) (by kernel_rfl) (by kernel_rfl) Tryz.underlying3 Tryz.underlying3 Tryz.underlying3 Tryz.underlying22 Tryz.underlying3 (by kernel_rfl) (QP 1 27 v1 rfl rfl) h1;obtain ⟨z2,rfl,rfl,rfl,wz2⟩ := open_int Tryz.underlying3 (QP 2 3 v2 rfl rfl) h2;obtain ⟨z3,rfl,rfl,rfl,wz3⟩ := open_int Tryz.underlying3 (QP 3 3 v3 rfl rfl) h3
 have hr2 : -9223372036854775808 <= z2 /\ z2 < 9223372036854775808 := by
  have := wz2;simp [Lit.wf,IntKind.min,IntKind.max,IntKind.signed,IntKind.bits] at this;omega
 have hr3 : -9223372036854775808 <= z3 /\ z3 < 9223372036854775808 := by
  have := wz3;simp [Lit.wf,IntKind.min,IntKind.max,IntKind.signed,IntKind.bits] at this;omega
 clear hA0 aeJ;simp only [List.append_nil] at hW';have hc := Pc ahr adk adj (show ak.fn nQa = _ from sQa) rfl (Xd (z0.take l0) n1 E1 C1 (y1.take m1) z2 z3) rfl (pY.cons (XD w0) (pY.cons (ae2 w1 x1) (pY.cons (.int _ _ _) (pY.cons (.int _ _ _) pY.nil)))) (V2 (fun _ => rfl));refine hc.mono fun e W' ⟨he,bel⟩ => ?_;subst he;exact ⟨_,rfl,_,_,_,[],_,[],hW',trodAll_mk1 (shut_bool Tryz.underlying4 _),(trodAll_cons_mk (Below.trod laidOut (by kernel_rfl) (of_decide_eq_true (by kernel_rfl)) h0 bel lt0) (trodAll_cons_mk (Below.trod laidOut (by kernel_rfl) (of_decide_eq_true (by kernel_rfl)) h1 bel lt1) (trodAll_cons_mk (shut_int Tryz.underlying3 wz2) (trodAll_cons_mk (shut_int Tryz.underlying3 wz3) trodAll_mk0)))),rfl,bel.frame _,fun h => by cases h⟩
theorem reads (os : Os) {H : Type} (enc : TypeId × Value -> H) : ∃ places,DataW.whole enc Tryz.prog ((World.holding Tryz.prog os ⟨#[],#[.slice none 0 0,.agg #[.int .i64 0,.slice none 0 0,.int .i64 0,.slice none 0 0],.int .i64 0,.int .i64 0],[]⟩).forCall (fun _ _ => 0) ⟨#[],#[.slice none 0 0,.agg #[.int .i64 0,.slice none 0 0,.int .i64 0,.slice none 0 0],.int .i64 0,.int .i64 0],[]⟩).memory Tryz.f3.params.toList Rows.trianglesAnswersSpec.vars false #[Value.slice none 0 0,Value.agg #[.int .i64 0,.slice none 0 0,.int .i64 0,.slice none 0 0],Value.int .i64 0,Value.int .i64 0].toList 8 = some ([.nil,.agg [.agg [.lit (.int .i64 0),.nil],.lit (.int .i64 0),.nil],.lit (.int .i64 0),.lit (.int .i64 0)],[],places) :=
 ⟨[],by kernel_rfl⟩
set_option maxRecDepth 100000 in
theorem lifted (os : Os) (started : os.Started) (H : Type) (enc : TypeId × Value -> H) (F : Stop.Interp) :
  ReturnsInHanded {} Tryz.checked os 3 .any ((OpenSpec.ofChange Rows.trianglesAnswersSpec).preRow enc Tryz.prog Tryz.f3 Rows.trianglesAnswersRow.domain false Rows.trianglesAnswersRow.laid) (((OpenSpec.ofChange Rows.trianglesAnswersSpec).at F).post enc Tryz.prog Tryz.f3 false true false false) := by
 obtain ⟨places,hx⟩ := reads os enc
 refine returnsInHanded_of_row (C := Tryz.checked) (s := OpenSpec.ofChange Rows.trianglesAnswersSpec) own started (by kernel_rfl) Tryz.func3
  (witness_row_at (enc := enc) (C := Tryz.checked) false (World.holding Tryz.prog os ⟨#[],#[.slice none 0 0,.agg #[.int .i64 0,.slice none 0 0,.int .i64 0,.slice none 0 0],.int .i64 0,.int .i64 0],[]⟩) #[.slice none 0 0,.agg #[.int .i64 0,.slice none 0 0,.int .i64 0,.slice none 0 0],.int .i64 0,.int .i64 0] rfl (by kernel_rfl) (by kernel_rfl) (by kernel_rfl)
   (OpenSpec.preRow_of_cond 8 hx (by kernel_rfl) (fun k hk => by cases hk) (by kernel_rfl) (laidMet_nil _ _))) ?_
 intro W base args ds gs before QP hW _ _ _ _ _ _;exact aaJ H enc W base args ds gs before QP hW
theorem proved : Rows.TrianglesAnswersSaid :=
 OpenClaim.holds_of_cond 3 Tryz.f3 rfl rfl rfl rfl rfl rfl rfl ⟨rfl,rfl,rfl,rfl,rfl⟩ rfl rfl rfl rfl rfl (by kernel_rfl) Tryz.func3 (by kernel_rfl)
  (of_decide_eq_true (by kernel_rfl)) (by unfold Func.isWrapper; first | (rw [if_pos (by decide +kernel)]; kernel_rfl) | (rw [if_neg (by decide +kernel)]; exact ⟨rfl,rfl⟩))
  (fun os started H enc _ F => by rw [OpenClaim.pre_eq_preRow]; exact lifted os started H enc F)
#print axioms proved
end Go.Proofs.YtmoginoicilobabGreat.trianglesAnswers
