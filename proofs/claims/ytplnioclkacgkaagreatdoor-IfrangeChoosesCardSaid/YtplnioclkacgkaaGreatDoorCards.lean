/-
  DERIVED. GIVEN WITH THE SEED: THE CARDS: each row of YtplnioclkacgkaaGreatDoorRows.lean that lists a variable, with what it lists TIED to the program's text (the seventh form; the later family's looks); each row that meets fmt, with fmt's text TOLD by the authors' own Lean function (tested against real Go, not proved from fmt's source: count such statements apart). THE CARD IS WHAT COUNTS. Prove the row's statement (the work); the ties are given (YtplnioclkacgkaaGreatDoorTie.lean); close each card by the builder's one call (the guide's Derived/Test/ToyasCard.lean, 'card_holds'). Laid BY PROGRAM, IN A SANDBOX (cutbox-door.mjs). By AI agents, Wed Nov 11 2026. No macro, syntax, notation, axiom, sorry.
-/
import Derived.Test.YtplnioclkacgkaaGreatDoorRows
import GoSem.ClaimSeven
namespace Go.Proofs.YtplnioclkacgkaaGreatDoor
namespace Rows

/-- THE TIED CARD OF 'spencelaw09.IfrangeChooses'. -/
def ifrangeChoosesCard : Claim7 := { stood := { row := ifrangeChoosesRow, standIns := [], harness := (true, "2aafe58f8ce1cf7f8be2b423477de634d8534122cb88c0084daabd83612657e9"), looks := false }, kinds := [], alts := [], laidByText := true, laidKinds := [.data, .pinned], laidTests := true, laidLooks := .later }
def IfrangeChoosesCardSaid : Prop := Claim7.holds Tryz.pinned (.plain (OpenSpec.ofChange ifrangeChoosesSpec)) ifrangeChoosesCard

/-- THE SECOND FORM's CARD OF 'spencelaw09.IfrangeChooses'. -/
def ifrangeChoosesUptoCard : Claim7 := { stood := { row := ifrangeChoosesUptoRow, standIns := [], harness := (true, "2aafe58f8ce1cf7f8be2b423477de634d8534122cb88c0084daabd83612657e9"), looks := false }, kinds := [], alts := [], laidByText := true, laidKinds := [.data, .pinned], laidTests := true, laidLooks := .later }
def IfrangeChoosesUptoCardSaid : Prop := Claim7.holds Tryz.pinned (.plain (OpenSpec.upto ifrangeChoosesSpec)) ifrangeChoosesUptoCard
end Rows
end Go.Proofs.YtplnioclkacgkaaGreatDoor
