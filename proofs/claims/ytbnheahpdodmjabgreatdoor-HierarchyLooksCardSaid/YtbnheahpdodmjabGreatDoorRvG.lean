/- The library's Reverse of ints as a function that writes into the slice it is given. -/
import Derived.Test.YtbnheahpdodmjabGreatDoorGrfP
namespace Go.Bm
open Go.Am
end Go.Bm
