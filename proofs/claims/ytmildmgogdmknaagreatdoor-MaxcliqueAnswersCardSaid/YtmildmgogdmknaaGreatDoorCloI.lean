/- The library's clone of an empty slice, of ints and of pairs, as an own empty slice. -/
import Derived.Test.YtmildmgogdmknaaGreatDoorGrfP
import Derived.Test.YtmildmgogdmknaaGreatDoorBmP
import Derived.Shelf.Spec.SlicesInsertGrow
namespace Go.Am
end Go.Am
namespace Go.Proofs
open Go.Shelf Go.RowKit Go.Lib
theorem abV:(Tryz.prog.info? 3).map (fun i=>(i.zero,i.size,i.bytes))=some (some (.int .i64 0),1,8):=by kernel_rfl
set_option maxHeartbeats 2000000 in
set_option maxRecDepth 100000 in
theorem abU (a:Addr) (c:Nat) (w:World):Calls Tryz.prog 97 #[.slice (some a) 0 c] w fun e w'=>e=.returned (.slice (some ⟨w.heap.size,0,none⟩) 0 0)/\w'=w.alloc (.cells #[] 3):=by
 have t4:=Tryz.underlying4; have a4:=Tryz.isAgg4; have z4:=Tryz.sizeOf4; have v4:=Tryz.zeroValue4; have t22:=Tryz.underlying22; have a22:=Tryz.isAgg22; have z22:=Tryz.sizeOf22; have v22:=Tryz.zeroValue22; have z43:=Tryz.sizeOf3;have mixed:Tryz.prog.follows .mixedOrders=true:=by kernel_rfl
 obtain⟨i0,hi0,_,_,_⟩:=info_parts abV;have q22:∀(w:World) (a:Option Addr) (n c n' c':Nat),(binOp .eql 22 (.slice a n c) (.slice none n' c')).run Tryz.prog w=.ok (.bool a.isNone) w:=fun w a n c n' c'=>Lib.run_eql_slice_nil w _ _ a n c n' c' t22;have u22:∀w,Sem.run Tryz.prog (underlying 22) w=.ok (TypeDesc.slice 3) w:=run_underlying t22;have mY:∀ty W,(Builtin.append_ #[22,22] ty #[.slice (some ⟨w.heap.size,0,none⟩) 0 0,.slice (some a) 0 c]).run Tryz.prog W=.ok (.slice (some ⟨w.heap.size,0,none⟩) 0 0) W:=fun ty W=>Go.Am.qo t22 hi0 (Nat.le_refl 0)
 go_enter Tryz.func97,Tryz.ntmps97
 go_wp2_with (at_builtin; refine Lib.wpList_append_run _ rfl _ _ _ _ rfl _ _ rfl rfl _ _ (mY _ _) ?_)
 go_ret
 exact⟨rfl,rfl⟩
set_option maxHeartbeats 1000000 in
theorem afv (n c:Nat) (w:World):Calls Tryz.prog 97 #[.slice none n c] w fun e w'=>e=.returned (.slice none 0 0)/\w'=w:=by
 have t4:=Tryz.underlying4; have a4:=Tryz.isAgg4; have z4:=Tryz.sizeOf4; have v4:=Tryz.zeroValue4; have t22:=Tryz.underlying22; have a22:=Tryz.isAgg22; have z22:=Tryz.sizeOf22; have v22:=Tryz.zeroValue22;have mixed:Tryz.prog.follows .mixedOrders=true:=by kernel_rfl
 have q22:∀(w:World) (a:Option Addr) (n c n' c':Nat),(binOp .eql 22 (.slice a n c) (.slice none n' c')).run Tryz.prog w=.ok (.bool a.isNone) w:=fun w a n c n' c'=>Lib.run_eql_slice_nil w _ _ a n c n' c' t22
 go_enter Tryz.func97,Tryz.ntmps97
 go_wp2
 go_ret
 exact⟨rfl,rfl⟩
end Go.Proofs
namespace Go.Bm
open Go.Am Go.Shelf Go.Proofs
end Go.Bm
