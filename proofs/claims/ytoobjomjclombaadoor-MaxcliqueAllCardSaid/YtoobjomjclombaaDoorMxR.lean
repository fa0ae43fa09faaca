/- maxclique.Bound, Colours and Proper of the cycle of five, known ahead. -/
import Derived.Test.YtoobjomjclombaaDoorGrfP
import Derived.Test.YtoobjomjclombaaDoorRunL
namespace Go.Bm
open Go.Am
def cyc5 : List Ed := [(0,1),(0,4),(1,2),(2,3),(3,4)]
def G5 : AV := .agg [.int .i64 5,.list 2 (eds cyc5)]
def gMb (args : List AV) (H : Heap) : Option (AV × Heap) := match H with
 | [] => if avLE [G5] args = true then some (.tup [.int .i64 3,.int .i64 0],[]) else none
 | _ => none
def gMc (args : List AV) (H : Heap) : Option (AV × Heap) := match H with
 | [] => if avLE [G5] args = true then some (.tup [.list 1 (ints [2,1,0,1,0]),.int .i64 0],[]) else none
 | _ => none
def gMp (args : List AV) (H : Heap) : Option (AV × Heap) := match H with
 | [] => if avLE [G5,.list 1 (ints [2,1,0,1,0])] args = true then some (.bool true,[]) else none
 | _ => none
end Go.Bm
