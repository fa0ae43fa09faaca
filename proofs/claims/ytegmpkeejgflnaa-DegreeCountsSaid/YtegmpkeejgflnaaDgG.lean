/- degree.Graphic of two lists, known ahead. -/
import Derived.Test.YtegmpkeejgflnaaSrtG
namespace Go.Bm
open Go.Am
def gDg : List AV -> Heap -> Option (AV × Heap)
 | [.list 1 cs], [] => match intsOf cs with
   | some zs => if zs = [3, 3, 1, 1] then some (.bool false, []) else if zs = [1, 1] then some (.bool true, []) else none
   | none => none
 | _, _ => none
end Go.Bm
