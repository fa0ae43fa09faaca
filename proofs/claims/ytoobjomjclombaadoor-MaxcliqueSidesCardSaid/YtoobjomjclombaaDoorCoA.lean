/- awake of law 26, its heavy calls run by the kernel. -/
import Derived.Test.YtoobjomjclombaaDoorCfS
import Derived.Test.YtoobjomjclombaaDoorRunX
import Derived.Test.YtoobjomjclombaaDoorRvG
import Derived.KernelRfl
set_option maxRecDepth 100000
namespace Go.BmP
open Go.Am Go.Bm
def cyc9 : List Ed := [(0,1),(0,4),(1,2),(2,3),(3,4)]
def G9 : AV := .agg [.int .i64 5,.list 2 (eds cyc9)]
theorem k_best : callB cfgS 3000 nQp [G9] [] = some (.tup [.list 1 (ints [0,1]),.int .i64 0],[]) := by kernel_rfl
theorem k_cols : callB cfgS 3000 nQm [G9] [] = some (.tup [.list 1 (ints [2,1,0,1,0]),.int .i64 0],[]) := by kernel_rfl
theorem k_prop : callB cfgS 3000 nQo [G9,.list 1 (ints [2,1,0,1,0])] [] = some (.bool true,[]) := by kernel_rfl
theorem k_bound : callB cfgS 3000 nQs [G9] [] = some (.tup [.int .i64 3,.int .i64 0],[]) := by kernel_rfl
theorem k_of : callB cfgS 3000 nQr [.int .i64 5,.list 2 (eds [(0,1),(1,2),(2,3),(3,4),(4,0)])] [] = some (.tup [G9,.int .i64 0],[]) := by kernel_rfl
theorem k_cmp : callB cfgS 3000 nQq [.list 1 (ints [0,1]),.list 1 (ints [0,1])] [] = some (.int .i64 0,[]) := by kernel_rfl
end Go.BmP
