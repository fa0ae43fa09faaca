/- awake of law 26, its heavy calls run by the kernel. -/
import Derived.Test.YtppmiehidnpgbaaGreatDoorCfS
import Derived.Test.YtppmiehidnpgbaaGreatDoorRunX
import Derived.Test.YtppmiehidnpgbaaGreatDoorGrfP
import Derived.KernelRfl
set_option maxRecDepth 100000
namespace Go.BmP
open Go.Am Go.Bm
def cyc9 : List Ed := [(0,1),(0,4),(1,2),(2,3),(3,4)]
def G9 : AV := .agg [.int .i64 5,.list 2 (dO cyc9)]
theorem agJ : gI au 3000 VQ [G9] [] = some (.dB [.list 1 (ints [0,1]),.int .i64 0],[]) := by kernel_rfl
theorem agI : gI au 3000 MQ [G9] [] = some (.dB [.list 1 (ints [2,1,0,1,0]),.int .i64 0],[]) := by kernel_rfl
theorem agH : gI au 3000 VO [G9,.list 1 (ints [2,1,0,1,0])] [] = some (.bool true,[]) := by kernel_rfl
theorem abM : gI au 3000 VP [G9] [] = some (.dB [.int .i64 3,.int .i64 0],[]) := by kernel_rfl
theorem k_of : gI au 3000 nQp [.int .i64 5,.list 2 (dO [(0,1),(1,2),(2,3),(3,4),(4,0)])] [] = some (.dB [G9,.int .i64 0],[]) := by kernel_rfl
theorem aiB : gI au 3000 nQq [.list 1 (ints [0,1]),.list 1 (ints [0,1])] [] = some (.int .i64 0,[]) := by kernel_rfl
end Go.BmP
