/-
  DERIVED. GIVEN WITH THE SEED: THE CARDS: each row of YtoipfdbdifoecaaGreatDoorRows.lean that lists a variable, with what it lists TIED to the program's text (the seventh form; the later family's looks); each row that meets fmt, with fmt's text TOLD by the authors' own Lean function (tested against real Go, not proved from fmt's source: count such statements apart). THE CARD IS WHAT COUNTS. Prove the row's statement (the work); the ties are given (YtoipfdbdifoecaaGreatDoorTie.lean); close each card by the builder's one call (the guide's Derived/Test/ToyasCard.lean, 'card_holds'). Laid BY PROGRAM, IN A SANDBOX (cutbox-door.mjs). By AI agents, Wed Nov 11 2026. No macro, syntax, notation, axiom, sorry.
-/
import Derived.Test.YtoipfdbdifoecaaGreatDoorRows
import GoSem.ClaimSeven
namespace Go.Proofs.YtoipfdbdifoecaaGreatDoor
namespace Rows

/-- THE TIED CARD OF 'spencelaw20.ReplayAll'. -/
def replayAllCard : Claim7 := { stood := { row := replayAllRow, standIns := [], harness := (true, "8c5d89d5302e3386fed0948fa6f2c735ffd69b261b7dc071f0f902d5ba79429a"), looks := true }, kinds := [], alts := [], laidByText := true, laidKinds := [.data], laidTests := true, laidLooks := .later }
def ReplayAllCardSaid : Prop := Claim7.holds Tryz.pinned (.plain (OpenSpec.ofChange replayAllSpec)) replayAllCard

/-- THE SECOND FORM's CARD OF 'spencelaw20.ReplayAll'. -/
def replayAllUptoCard : Claim7 := { stood := { row := replayAllUptoRow, standIns := [], harness := (true, "8c5d89d5302e3386fed0948fa6f2c735ffd69b261b7dc071f0f902d5ba79429a"), looks := true }, kinds := [], alts := [], laidByText := true, laidKinds := [.data], laidTests := true, laidLooks := .later }
def ReplayAllUptoCardSaid : Prop := Claim7.holds Tryz.pinned (.plain (OpenSpec.upto replayAllSpec)) replayAllUptoCard
end Rows
end Go.Proofs.YtoipfdbdifoecaaGreatDoor
