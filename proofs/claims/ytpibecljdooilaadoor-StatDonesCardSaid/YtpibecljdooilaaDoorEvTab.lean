/- The library's tables that this seat's program reads: errors.errorType's cell. Own work. -/
import Derived.WalkKit
namespace Go.Ev
open Go
def glT : List (Nat × List Value) := [(1, [.iface 188 (.agg #[.pointer (some ⟨5, 80, none⟩)])])]
/-- Variables of the library that hold some int, whatever. -/
def glI : List Nat := [2]
end Go.Ev
