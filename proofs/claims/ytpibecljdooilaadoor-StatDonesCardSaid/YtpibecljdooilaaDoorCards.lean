/-
  DERIVED. GIVEN WITH THE SEED: THE CARDS: each row of YtpibecljdooilaaDoorRows.lean that lists a variable, with what it lists TIED to the program's text (the seventh form; the later family's looks); each row that meets fmt, with fmt's text TOLD by the authors' own Lean function (tested against real Go, not proved from fmt's source: count such statements apart). THE CARD IS WHAT COUNTS. Prove the row's statement (the work); the ties are given (YtpibecljdooilaaDoorTie.lean); close each card by the builder's one call (the guide's Derived/Test/ToyasCard.lean, 'card_holds'). Laid BY PROGRAM, IN A SANDBOX (cutbox-door.mjs). By AI agents, Wed Nov 11 2026. No macro, syntax, notation, axiom, sorry.
-/
import Derived.Test.YtpibecljdooilaaDoorRows
import GoSem.ClaimSeven
namespace Go.Proofs.YtpibecljdooilaaDoor
namespace Rows

/-- THE TIED CARD OF 'spencelaw08.MultiPuts'. -/
def multiPutsCard : Claim7 := { stood := { row := multiPutsRow, standIns := [], harness := (true, "9ff114352264addb8c893f9962fcf05f2b897e218beff307cc0e513103f376b9"), looks := true }, kinds := [], alts := [], laidByText := true, laidKinds := [.sentinel], laidTests := true, laidLooks := .later }
def MultiPutsCardSaid : Prop := Claim7.holds Tryd.pinned (.plain (OpenSpec.ofChange multiPutsSpec)) multiPutsCard

/-- THE TIED CARD OF 'spencelaw08.MultiBack'. -/
def multiBackCard : Claim7 := { stood := { row := multiBackRow, standIns := [], harness := (true, "9ff114352264addb8c893f9962fcf05f2b897e218beff307cc0e513103f376b9"), looks := true }, kinds := [], alts := [], laidByText := true, laidKinds := [.handle, .sentinel], laidTests := true, laidLooks := .later }
def MultiBackCardSaid : Prop := Claim7.holds Tryd.pinned (.plain (OpenSpec.ofChange multiBackSpec)) multiBackCard

/-- THE TIED CARD OF 'spencelaw08.MultiReads'. -/
def multiReadsCard : Claim7 := { stood := { row := multiReadsRow, standIns := [], harness := (true, "9ff114352264addb8c893f9962fcf05f2b897e218beff307cc0e513103f376b9"), looks := true }, kinds := [], alts := [], laidByText := true, laidKinds := [.handle, .sentinel], laidTests := true, laidLooks := .later }
def MultiReadsCardSaid : Prop := Claim7.holds Tryd.pinned (.plain (OpenSpec.ofChange multiReadsSpec)) multiReadsCard

/-- THE TIED CARD OF 'spencelaw45.StatDones'. -/
def statDonesCard : Claim7 := { stood := { row := statDonesRow, standIns := [], harness := (true, "9ff114352264addb8c893f9962fcf05f2b897e218beff307cc0e513103f376b9"), looks := true }, kinds := [], alts := [], laidByText := true, laidKinds := [.handle, .sentinel], laidTests := true, laidLooks := .later }
def StatDonesCardSaid : Prop := Claim7.holds Tryd.pinned (.plain (OpenSpec.ofChange statDonesSpec)) statDonesCard

/-- THE TIED CARD OF 'spencelaw09.IfrangeWithin'. -/
def ifrangeWithinCard : Claim7 := { stood := { row := ifrangeWithinRow, standIns := [], harness := (true, "9ff114352264addb8c893f9962fcf05f2b897e218beff307cc0e513103f376b9"), looks := true }, kinds := [], alts := [], laidByText := true, laidKinds := [.data, .pinned], laidTests := true, laidLooks := .later }
def IfrangeWithinCardSaid : Prop := Claim7.holds Tryd.pinned (.plain (OpenSpec.ofChange ifrangeWithinSpec)) ifrangeWithinCard

/-- THE TIED CARD OF 'spencelaw09.IfrangeOne'. -/
def ifrangeOneCard : Claim7 := { stood := { row := ifrangeOneRow, standIns := [], harness := (true, "9ff114352264addb8c893f9962fcf05f2b897e218beff307cc0e513103f376b9"), looks := true }, kinds := [], alts := [], laidByText := true, laidKinds := [.data, .pinned], laidTests := true, laidLooks := .later }
def IfrangeOneCardSaid : Prop := Claim7.holds Tryd.pinned (.plain (OpenSpec.ofChange ifrangeOneSpec)) ifrangeOneCard

/-- THE SECOND FORM's CARD OF 'spencelaw08.MultiPuts'. -/
def multiPutsUptoCard : Claim7 := { stood := { row := multiPutsUptoRow, standIns := [], harness := (true, "9ff114352264addb8c893f9962fcf05f2b897e218beff307cc0e513103f376b9"), looks := true }, kinds := [], alts := [], laidByText := true, laidKinds := [.sentinel], laidTests := true, laidLooks := .later }
def MultiPutsUptoCardSaid : Prop := Claim7.holds Tryd.pinned (.plain (OpenSpec.upto multiPutsSpec)) multiPutsUptoCard

/-- THE SECOND FORM's CARD OF 'spencelaw08.MultiBack'. -/
def multiBackUptoCard : Claim7 := { stood := { row := multiBackUptoRow, standIns := [], harness := (true, "9ff114352264addb8c893f9962fcf05f2b897e218beff307cc0e513103f376b9"), looks := true }, kinds := [], alts := [], laidByText := true, laidKinds := [.handle, .sentinel], laidTests := true, laidLooks := .later }
def MultiBackUptoCardSaid : Prop := Claim7.holds Tryd.pinned (.plain (OpenSpec.upto multiBackSpec)) multiBackUptoCard

/-- THE SECOND FORM's CARD OF 'spencelaw08.MultiReads'. -/
def multiReadsUptoCard : Claim7 := { stood := { row := multiReadsUptoRow, standIns := [], harness := (true, "9ff114352264addb8c893f9962fcf05f2b897e218beff307cc0e513103f376b9"), looks := true }, kinds := [], alts := [], laidByText := true, laidKinds := [.handle, .sentinel], laidTests := true, laidLooks := .later }
def MultiReadsUptoCardSaid : Prop := Claim7.holds Tryd.pinned (.plain (OpenSpec.upto multiReadsSpec)) multiReadsUptoCard

/-- THE SECOND FORM's CARD OF 'spencelaw45.StatDones'. -/
def statDonesUptoCard : Claim7 := { stood := { row := statDonesUptoRow, standIns := [], harness := (true, "9ff114352264addb8c893f9962fcf05f2b897e218beff307cc0e513103f376b9"), looks := true }, kinds := [], alts := [], laidByText := true, laidKinds := [.handle, .sentinel], laidTests := true, laidLooks := .later }
def StatDonesUptoCardSaid : Prop := Claim7.holds Tryd.pinned (.plain (OpenSpec.upto statDonesSpec)) statDonesUptoCard

/-- THE SECOND FORM's CARD OF 'spencelaw09.IfrangeWithin'. -/
def ifrangeWithinUptoCard : Claim7 := { stood := { row := ifrangeWithinUptoRow, standIns := [], harness := (true, "9ff114352264addb8c893f9962fcf05f2b897e218beff307cc0e513103f376b9"), looks := true }, kinds := [], alts := [], laidByText := true, laidKinds := [.data, .pinned], laidTests := true, laidLooks := .later }
def IfrangeWithinUptoCardSaid : Prop := Claim7.holds Tryd.pinned (.plain (OpenSpec.upto ifrangeWithinSpec)) ifrangeWithinUptoCard

/-- THE SECOND FORM's CARD OF 'spencelaw09.IfrangeOne'. -/
def ifrangeOneUptoCard : Claim7 := { stood := { row := ifrangeOneUptoRow, standIns := [], harness := (true, "9ff114352264addb8c893f9962fcf05f2b897e218beff307cc0e513103f376b9"), looks := true }, kinds := [], alts := [], laidByText := true, laidKinds := [.data, .pinned], laidTests := true, laidLooks := .later }
def IfrangeOneUptoCardSaid : Prop := Claim7.holds Tryd.pinned (.plain (OpenSpec.upto ifrangeOneSpec)) ifrangeOneUptoCard
end Rows
end Go.Proofs.YtpibecljdooilaaDoor
