/- awake of law 26, its heavy calls run by the kernel. -/
import Derived.Test.YtmildmgogdmknaaGreatDoorCfS
import Derived.KernelRfl
set_option maxRecDepth 100000
namespace Go.BmP
open Go.Am Go.Bm
def cyc9:List Ed:=[(0,1),(0,4),(1,2),(2,3),(3,4)]
def G9:AV:=.agg [.int .i64 5,.list 2 (bU cyc9)]
theorem alF:jN aq 3000 WU [G9] []=some (.dJ [.list 1 (ints [0,1]),.int .i64 0],[]):=by kernel_rfl
theorem alE:jN aq 3000 Sd [G9] []=some (.dJ [.list 1 (ints [2,1,0,1,0]),.int .i64 0],[]):=by kernel_rfl
theorem alD:jN aq 3000 TQ [G9,.list 1 (ints [2,1,0,1,0])] []=some (.bool true,[]):=by kernel_rfl
theorem ahc:jN aq 3000 TU [G9] []=some (.dJ [.int .i64 3,.int .i64 0],[]):=by kernel_rfl
theorem k_of:jN aq 3000 nQx [.int .i64 5,.list 2 (bU [(0,1),(1,2),(2,3),(3,4),(4,0)])] []=some (.dJ [G9,.int .i64 0],[]):=by kernel_rfl
theorem ank:jN aq 3000 TR [.list 1 (ints [0,1]),.list 1 (ints [0,1])] []=some (.int .i64 0,[]):=by kernel_rfl
end Go.BmP
