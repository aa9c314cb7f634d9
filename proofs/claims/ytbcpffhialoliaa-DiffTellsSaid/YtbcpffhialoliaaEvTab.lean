/- The library's tables that this seat's program reads (a plain seat: none). Own work. -/
import Derived.WalkKit
namespace Go.Ev
open Go
def glT : List (Nat × List Value) := []
/-- Variables of the library that hold some int, whatever. -/
def glI : List Nat := []
end Go.Ev
