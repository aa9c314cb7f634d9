/- The library's tables that this seat's program reads: math/bits.deBruijn64tab, variable 0. Own work. -/
import Derived.WalkKit
import Derived.Lib.TrailingZeros
namespace Go.Ev
open Go
def glT : List (Nat × List Value) := [(0, Lib.deBruijn64tab.map fun (n : Nat) => Value.int .u8 n)]
end Go.Ev
