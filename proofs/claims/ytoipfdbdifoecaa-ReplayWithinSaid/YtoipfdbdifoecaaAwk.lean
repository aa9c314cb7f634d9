/- Chapter 20's example. Own work. -/
import Derived.Test.YtoipfdbdifoecaaSame
namespace Go.Proofs.Ytoipfdbdifoecaa
open Go Go.Ev Go.Proofs.Ytoipfdbdifoecaa.Ir
theorem c_awake20 : call ir 7 [] [] = some (.d (.bool true), []) := call_of (n := 200) (by kernel_rfl)
end Go.Proofs.Ytoipfdbdifoecaa
