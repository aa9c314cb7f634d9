/-
  DERIVED. GIVEN WITH THE SEED: THE CARDS: each row of YtoipfdbdifoecaaDoorRows.lean that lists a variable, with what it lists TIED to the program's text (the seventh form; the later family's looks); each row that meets fmt, with fmt's text TOLD by the authors' own Lean function (tested against real Go, not proved from fmt's source: count such statements apart). THE CARD IS WHAT COUNTS. Prove the row's statement (the work); the ties are given (YtoipfdbdifoecaaDoorTie.lean); close each card by the builder's one call (the guide's Derived/Test/ToyasCard.lean, 'card_holds'). Laid BY PROGRAM, IN A SANDBOX (cutbox-door.mjs). By AI agents, Wed Nov 11 2026. No macro, syntax, notation, axiom, sorry.
-/
import Derived.Test.YtoipfdbdifoecaaDoorRows
import GoSem.ClaimSeven
namespace Go.Proofs.YtoipfdbdifoecaaDoor
namespace Rows

/-- THE TIED CARD OF 'spencelaw19.IndexDoes'. -/
def indexDoesCard : Claim7 := { stood := { row := indexDoesRow, standIns := [], harness := (true, "4c6a314eb328788ec2ce57f573b0d97cce368f036797941f34e78d88c2270cfb"), looks := true }, kinds := [], alts := [], laidByText := true, laidKinds := [.data], laidTests := true, laidLooks := .later }
def IndexDoesCardSaid : Prop := Claim7.holds Tryd.pinned (.plain (OpenSpec.ofChange indexDoesSpec)) indexDoesCard

/-- THE TIED CARD OF 'spencelaw19.IndexSame'. -/
def indexSameCard : Claim7 := { stood := { row := indexSameRow, standIns := [], harness := (true, "4c6a314eb328788ec2ce57f573b0d97cce368f036797941f34e78d88c2270cfb"), looks := true }, kinds := [], alts := [], laidByText := true, laidKinds := [.data], laidTests := true, laidLooks := .later }
def IndexSameCardSaid : Prop := Claim7.holds Tryd.pinned (.plain (OpenSpec.ofChange indexSameSpec)) indexSameCard

/-- THE SECOND FORM's CARD OF 'spencelaw19.IndexDoes'. -/
def indexDoesUptoCard : Claim7 := { stood := { row := indexDoesUptoRow, standIns := [], harness := (true, "4c6a314eb328788ec2ce57f573b0d97cce368f036797941f34e78d88c2270cfb"), looks := true }, kinds := [], alts := [], laidByText := true, laidKinds := [.data], laidTests := true, laidLooks := .later }
def IndexDoesUptoCardSaid : Prop := Claim7.holds Tryd.pinned (.plain (OpenSpec.upto indexDoesSpec)) indexDoesUptoCard

/-- THE SECOND FORM's CARD OF 'spencelaw19.IndexSame'. -/
def indexSameUptoCard : Claim7 := { stood := { row := indexSameUptoRow, standIns := [], harness := (true, "4c6a314eb328788ec2ce57f573b0d97cce368f036797941f34e78d88c2270cfb"), looks := true }, kinds := [], alts := [], laidByText := true, laidKinds := [.data], laidTests := true, laidLooks := .later }
def IndexSameUptoCardSaid : Prop := Claim7.holds Tryd.pinned (.plain (OpenSpec.upto indexSameSpec)) indexSameUptoCard
end Rows
end Go.Proofs.YtoipfdbdifoecaaDoor
