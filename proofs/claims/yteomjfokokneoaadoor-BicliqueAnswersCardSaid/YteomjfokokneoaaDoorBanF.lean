/- The law BicliqueAnswers returns true at every input, and leaves its arguments as they read. No condition but the card's own: the table of math/bits starts as the program's text lays it. -/
import Derived.Test.YteomjfokokneoaaDoorCards
import Derived.Test.YteomjfokokneoaaDoorTie
import Derived.Test.YteomjfokokneoaaDoorBbL
import Derived.Test.YteomjfokokneoaaDoorInpC
import Derived.Test.YteomjfokokneoaaDoorRawS
import Derived.WalkKit
import Derived.ProofKit
import Derived.OpenShut
import Derived.Deep.DeepHandedRow
import Derived.Lib.LaidTab
open Option.some renaming inj → dm
namespace Go.Proofs.YteomjfokokneoaaDoor.bicliqueAnswers
open Go.ChangeShapes Go.WideShapes Go.ChangeAt Go.RowKit
open Go.Am Go.Bm Go.BmP
set_option linter.unusedVariables false
theorem own : ownKnob Tryd.prog.godebug = none := by kernel_rfl
theorem laidOut : laidOutB Tryd.prog = true := by kernel_rfl
set_option maxRecDepth 100000 in
theorem opened {H : Type} {enc : TypeId × Value -> H} {W : World} {v : Value} {d : DataW H} {p : List MemPlace} {base : Nat}
  (hv : Value.okWide Tryd.prog W .any base 22 v) (h : DataW.Trod enc Tryd.prog W 0 (fun _ => true) true 22 v d p) :
  ∃ a len cap zs,v = .slice a len cap /\ w5 .i64 W a len cap zs /\ ∀ x ∈ p,x.block < W.heap.size := by
 obtain ⟨a0,len0,cap0,rfl⟩ := okWide_slice Tryd.underlying22 hv;have k0 := h;have lt0 : ∀ x ∈ p,x.block < W.heap.size := by obtain ⟨m,hm⟩ := k0; exact DataW.trod_lt m _ _ _ hm
 obtain ⟨fuel,hf⟩ := h;rcases open_ints Tryd.underlying22 Tryd.underlying3 (by kernel_rfl) hf with ⟨dv,hx⟩ | ⟨x,l,c,zs,dv,_,hl,hm,hz,hx,kz,hwz⟩
 ·simp [Value.cells] at dv;obtain ⟨rfl,rfl,rfl⟩ := dv;cases hx;exact ⟨none,0,0,[],rfl,.inl ⟨rfl,rfl,rfl,rfl⟩,lt0⟩
 ·simp [Value.cells] at dv;obtain ⟨rfl,rfl,rfl⟩ := dv;cases hx;refine ⟨_,_,_,zs,rfl,.inr ⟨_,rfl,hl,hm,by simpa using hz,kz,hwz⟩,lt0⟩
theorem gJb1 : Tryd.prog.globalNamed "math/bits.deBruijn64tab" = some W9 := by kernel_rfl
theorem Yd : (Tryd.prog.globals[W9]?).map (·.type) = some 102 := by kernel_rfl
theorem aea : Tryd.prog.cellsOf 102 = 64 := by kernel_rfl
theorem aeb : Tryd.prog.cellsOf 5 = 1 := by kernel_rfl
theorem table {W : World} (h : laidMetH Tryd.prog Rows.bicliqueAnswersRow.laid W) : Lib.TabIs Tryd.prog W "math/bits.deBruijn64tab" .u8 KA :=
 Lib.tabIs_of_head (rest := []) gJb1 Yd Tryd.underlying102 Tryd.underlying5 aeb aea h
theorem gl {W : World} (h : laidMetH Tryd.prog Rows.bicliqueAnswersRow.laid W) : Am.dL (gZ aA) (fun _ => False) [] W :=
 Yb (g0 := W9) (k := .u8) (zs := KA) (fun g => rfl) fun i hi => ((table h).cell gJb1 i hi).trans (by rw [List.getD_eq_getElem?_getD,List.getElem?_eq_getElem hi]; rfl)
set_option maxRecDepth 100000 in
theorem Ys (H : Type) (enc : TypeId × Value -> H) (W : World) (base : Nat) (args : Array Value) (ds gs : List (DataW H)) (before : List MemPlace)
  (Nc : ∀ (j : Nat) t v,Tryd.f3.params[j]? = some t -> args[j]? = some v -> Value.okWide Tryd.prog W .any base t v)
  (hW : DataW.Whole enc Tryd.prog Tryd.f3.params.toList Rows.bicliqueAnswersSpec.vars false W args.toList ds gs before) (hL : laidMetH Tryd.prog Rows.bicliqueAnswersRow.laid W) :
  Calls Tryd.prog 3 args W fun e W' => ∃ v,e = .returned v /\ Rows.bicliqueAnswersSpec.post enc Tryd.prog Tryd.f3 false true false false W args v W' := by
 have hW' := hW;obtain ⟨p,q,hA0,hV,rfl,CB,hnd⟩ := hW;have hA : DataW.TrodAll enc Tryd.prog W 0 (fun _ => true) true Tryd.f3.params.toList args.toList ds p := hA0;rw [Tryd.params3] at hA Nc;obtain ⟨v0,vs0,d0,ds0,p0,q0,kS,rfl,rfl,h0,r0⟩ := trodAll_cons hA;obtain ⟨v1,vs1,d1,ds1,p1,q1,rfl,rfl,rfl,h1,r1⟩ := trodAll_cons r0;obtain ⟨v2,vs2,d2,ds2,p2,q2,rfl,rfl,rfl,h2,r2⟩ := trodAll_cons r1;obtain ⟨v3,vs3,d3,ds3,p3,q3,rfl,rfl,rfl,h3,r3⟩ := trodAll_cons r2;obtain ⟨v4,vs4,d4,ds4,p4,q4,rfl,rfl,rfl,h4,r4⟩ := trodAll_cons r3;obtain ⟨rfl,rfl,rfl⟩ := trodAll_nil r4;obtain rfl : args = #[v0,v1,v2,v3,v4] := by cases args; simp_all
 obtain ⟨rfl,rfl⟩ := trodVars_none hV;obtain ⟨a0,l0,c0,z0,rfl,w0,lt0⟩ := opened (Nc 0 22 v0 rfl rfl) h0;obtain ⟨a1,l1,c1,z1,rfl,w1,lt1⟩ := opened (Nc 1 22 v1 rfl rfl) h1;obtain ⟨n2,a2,l2,c2,E2,b2,m2,k2,y2,rfl,w2,x2,wn2,lt2⟩ := O8 Tryd.underlying27 (by kernel_rfl) (by rfl) (by rfl) (by kernel_rfl) (by kernel_rfl) Tryd.underlying25 (by rfl) (by rfl) (by kernel_rfl) (by kernel_rfl) Tryd.underlying3 Tryd.underlying23 Tryd.underlying58 (by kernel_rfl) (by rfl) (by rfl) (by kernel_rfl) (by kernel_rfl) Tryd.underlying3 Tryd.underlying3 Tryd.underlying22 Tryd.underlying3 (by kernel_rfl) (Nc 2 27 v2 rfl rfl) h2;obtain ⟨a3,l3,c3,z3,b3,m3,k3,y3,rfl,w3,x3,lt3⟩ := open_pair Tryd.underlying29 (by kernel_rfl) (by rfl) (by rfl) (by kernel_rfl) (by kernel_rfl) Tryd.underlying22 Tryd.underlying22 Tryd.underlying3 Tryd.underlying3 (by kernel_rfl) (by kernel_rfl) (Nc 3 29 v3 rfl rfl) h3;obtain ⟨z4,rfl,rfl,rfl,wz4⟩ := open_int Tryd.underlying3 (Nc 4 3 v4 rfl rfl) h4;clear hA0;simp only [List.append_nil] at hW';have hc := NV ad9 abh abg (show aA.fn nJa = _ from sJa) rfl (YW (z0.take l0) (z1.take l1) n2 E2 (y2.take m2) (z3.take l3) (y3.take m3) (V4 w3) (V4 x3) z4) rfl (pM.cons (Dy w0) (pM.cons (Dy w1) (pM.cons (VT w2 x2) (pM.cons (aaa w3 x3) (pM.cons (.int _ _ _) pM.nil))))) (gl hL);refine hc.mono fun e W' ⟨he,bel⟩ => ?_;subst he;exact ⟨_,rfl,_,_,_,[],_,[],hW',trodAll_mk1 (shut_bool Tryd.underlying4 _),(trodAll_cons_mk (Below.trod laidOut (by kernel_rfl) (of_decide_eq_true (by kernel_rfl)) h0 bel lt0) (trodAll_cons_mk (Below.trod laidOut (by kernel_rfl) (of_decide_eq_true (by kernel_rfl)) h1 bel lt1) (trodAll_cons_mk (Below.trod laidOut (by kernel_rfl) (of_decide_eq_true (by kernel_rfl)) h2 bel lt2) (trodAll_cons_mk (Below.trod laidOut (by kernel_rfl) (of_decide_eq_true (by kernel_rfl)) h3 bel lt3) (trodAll_cons_mk (shut_int Tryd.underlying3 wz4) trodAll_mk0))))),rfl,bel.frame _,fun h => by cases h⟩
/-- A world for the witness: the table holds what its initialiser lays. -/
noncomputable def A4 (os : Os) : World :=
 { World.holding Tryd.prog os ⟨#[],#[],[]⟩ with heap := (World.holding Tryd.prog os ⟨#[],#[],[]⟩).heap.modify W9 fun
   | .cells _ t frozen => .cells (KA.map (Value.int .u8)).toArray t frozen
   | o => o }
theorem Xt (os : Os) : laidMet Tryd.prog Rows.bicliqueAnswersRow.laid ((A4 os).forCall (fun _ _ => 0) ⟨#[],#[.slice none 0 0,.slice none 0 0,.agg #[.int .i64 0,.slice none 0 0,.slice none 0 0],.agg #[.slice none 0 0,.slice none 0 0],.int .i64 0],[]⟩).memory :=
 laidMet_of_run' 8 (by kernel_rfl) (by kernel_rfl)
theorem reads (os : Os) {H : Type} (enc : TypeId × Value -> H) : ∃ places,DataW.whole enc Tryd.prog ((A4 os).forCall (fun _ _ => 0) ⟨#[],#[.slice none 0 0,.slice none 0 0,.agg #[.int .i64 0,.slice none 0 0,.slice none 0 0],.agg #[.slice none 0 0,.slice none 0 0],.int .i64 0],[]⟩).memory Tryd.f3.params.toList Rows.bicliqueAnswersSpec.vars false #[Value.slice none 0 0,Value.slice none 0 0,Value.agg #[.int .i64 0,.slice none 0 0,.slice none 0 0],Value.agg #[.slice none 0 0,.slice none 0 0],Value.int .i64 0].toList 8 = some ([.nil,.nil,.agg [.agg [.lit (.int .i64 0),.nil],.nil],.agg [.nil,.nil],.lit (.int .i64 0)],[],places) :=
 ⟨[],by kernel_rfl⟩
set_option maxRecDepth 100000 in
theorem lifted (os : Os) (started : os.Started) (H : Type) (enc : TypeId × Value -> H) (F : Stop.Interp) :
  ReturnsInHanded {} Tryd.checked os 3 .any ((OpenSpec.ofChange Rows.bicliqueAnswersSpec).preRow enc Tryd.prog Tryd.f3 Rows.bicliqueAnswersRow.domain false Rows.bicliqueAnswersRow.laid) (((OpenSpec.ofChange Rows.bicliqueAnswersSpec).at F).post enc Tryd.prog Tryd.f3 false true false false) := by
 obtain ⟨places,hx⟩ := reads os enc
 refine returnsInHanded_of_row (C := Tryd.checked) (s := OpenSpec.ofChange Rows.bicliqueAnswersSpec) own started (by kernel_rfl) Tryd.func3
  (witness_row_at (enc := enc) (C := Tryd.checked) false (A4 os) #[.slice none 0 0,.slice none 0 0,.agg #[.int .i64 0,.slice none 0 0,.slice none 0 0],.agg #[.slice none 0 0,.slice none 0 0],.int .i64 0] rfl (by kernel_rfl) (by kernel_rfl) (by kernel_rfl)
   (OpenSpec.preRow_of_cond 8 hx (by kernel_rfl) (fun k hk => by cases hk) (by kernel_rfl) (Xt os))) ?_
 intro W base args ds gs before Nc hW _ _ _ hL _ _;exact Ys H enc W base args ds gs before Nc hW hL
theorem said : Rows.BicliqueAnswersSaid :=
 OpenClaim.holds_of_cond 3 Tryd.f3 rfl rfl rfl rfl rfl rfl rfl ⟨rfl,rfl,rfl,rfl,rfl⟩ rfl rfl rfl rfl rfl (by kernel_rfl) Tryd.func3 (by kernel_rfl)
  (of_decide_eq_true (by kernel_rfl)) (by unfold Func.isWrapper; first | (rw [if_pos (by decide +kernel)]; kernel_rfl) | (rw [if_neg (by decide +kernel)]; exact ⟨rfl,rfl⟩))
  (fun os started H enc _ F => by rw [OpenClaim.pre_eq_preRow]; exact lifted os started H enc F)
theorem plain (f : FuncId) (fn : Func) (hf : Tryd.pinned.checked.prog.funcNamed "cohesion/cohesionlaw27.BicliqueAnswers" = some f) (hfn : Tryd.pinned.checked.prog.funcs[f]? = some fn) :
  false = Tryd.pinned.checked.prog.looks [] /\ ∀ (j : Nat) t,fn.params[j]? = some t -> Tryd.pinned.checked.prog.wantsStandIn t = false := by
 obtain rfl : f = 3 := dm ((show Tryd.prog.funcNamed "cohesion/cohesionlaw27.BicliqueAnswers" = some 3 by kernel_rfl).symm.trans hf) |>.symm
 obtain rfl : fn = Tryd.f3 := (dm (Tryd.func3.symm.trans hfn)).symm;refine ⟨by kernel_rfl,fun j t ht => ?_⟩;rw [Tryd.params3] at ht;have hm : t = 22 \/ t = 27 \/ t = 29 \/ t = 3 := by simpa using Array.mem_of_getElem? ht
 rcases hm with rfl | rfl | rfl | rfl
 ·exact (show Tryd.prog.wantsStandIn 22 = false by kernel_rfl)
 ·exact (show Tryd.prog.wantsStandIn 27 = false by kernel_rfl)
 ·exact (show Tryd.prog.wantsStandIn 29 = false by kernel_rfl)
 ·exact (show Tryd.prog.wantsStandIn 3 = false by kernel_rfl)
theorem proved : Rows.BicliqueAnswersCardSaid :=
 Claim7.holds_tied_plain_at .later [] _ _ _ _ said (fun _ h => by cases h) (by kernel_rfl) (fun _ h => by cases h) bicliqueAnswers_row_tie rfl ⟨rfl,rfl⟩ (by kernel_rfl) rfl plain (by kernel_rfl)
#print axioms proved
end Go.Proofs.YteomjfokokneoaaDoor.bicliqueAnswers
