/- degree.realise, as the machine by value knows it. -/
import Derived.Test.YtjfdniggjdnkiaaBitP
import Derived.Test.YtjfdniggjdnkiaaRzP
namespace Go.Bm
open Go.Am
def gRz : List AV -> Heap -> Option (AV × Heap)
 | [.list 1 cs], [] => match intsOf cs with
   | some zs => if zs.length <= 64 then some (.tup [.list 2 (((rz zs).getD []).map pr2), .bool (rz zs).isSome], []) else none
   | none => none
 | _, _ => none
end Go.Bm
