/-
  No cell of these rows narrows 'for every input' (looked for: loops, veiled, ifaces, maps, wideKeys, modest, calm, conditions, laid).
  DERIVED. THE GIVEN ROWS OF THIS SEAT. 4 by the template 'for every input the law returns true; each argument reads behind the call as it read before'; 0 by the template 'total and deterministic' (their statements: YtoipfdbdifoecaaTotals.lean).
  GIVEN WITH THE SEED: the statements are not yours to turn. If you find one false, say at which input.
  Laid BY PROGRAM, IN A SANDBOX (cutbox-rows.mjs): the forced cells as the released guide's own fill.sh prints them over the translation 7dfad37085d760b8… (all of the seat's roots in one cut). By AI agents, Wed Nov 11 2026. No macro, syntax, notation, axiom, sorry.
-/
import Derived.Test.YtoipfdbdifoecaaChecked
import GoSem.Claim
import GoSem.ClaimJoined
import GoSem.ClaimMapViews
import Derived.JoinedTies
import Derived.KernelRfl
namespace Go.Proofs.Ytoipfdbdifoecaa
/- THE CELL 'sum', in the pinned program and in every row, IS THE sha256 OF THE DUMP (.gsa) THAT YtoipfdbdifoecaaProg.lean LOADS. Nothing in Lean hashes anything: it is a label: what it is worth is what the hold of that sum in a sandbox is worth. -/
noncomputable def Try.pinned : Pinned := { name := "ytoipfdbdifoecaa", sum := "7dfad37085d760b881446b21548e0eb8871274c2867ecf6dcdbcf596995033eb", checked := Try.checked }
namespace Rows
def none {H : Type} : Left H := { results := [], args := [] }

/-- 'spencelaw20.ReplayOrder': WHATEVER THE INPUT: true; the input reads as it did. -/
def replayOrderSpec : ChangeSpec := { name := "replayOrder", fn := fun _ => fun
  | [d1, d2] => { results := [.lit (.bool true)], args := [d1, d2] }
  | _ => none }
def replayOrderRow : OpenClaim := { program := "ytoipfdbdifoecaa", sum := "7dfad37085d760b881446b21548e0eb8871274c2867ecf6dcdbcf596995033eb", func := "spence/spencelaw20.ReplayOrder", spec := "replayOrder", inPlace := ["maps.clone"], unfollowed := true, recurses := true, apart := false }
def ReplayOrderSaid : Prop := replayOrderRow.holds Try.pinned (OpenSpec.ofChange replayOrderSpec)

/-- ITS FALSE NEIGHBOUR: 'it returns false'. Refute it at one input. -/
def replayOrderWrong : ChangeSpec := { name := "replayOrder", fn := fun _ => fun
  | [d1, d2] => { results := [.lit (.bool false)], args := [d1, d2] }
  | _ => none }
def ReplayOrderWrongFalsely : Prop := replayOrderRow.holds Try.pinned (OpenSpec.ofChange replayOrderWrong)

/-- 'spencelaw20.ReplayLive': WHATEVER THE INPUT: true; the input reads as it did. -/
def replayLiveSpec : ChangeSpec := { name := "replayLive", fn := fun _ => fun
  | [d] => { results := [.lit (.bool true)], args := [d] }
  | _ => none }
def replayLiveRow : OpenClaim := { program := "ytoipfdbdifoecaa", sum := "7dfad37085d760b881446b21548e0eb8871274c2867ecf6dcdbcf596995033eb", func := "spence/spencelaw20.ReplayLive", spec := "replayLive", inPlace := ["maps.clone"], unfollowed := true, recurses := true, apart := false }
def ReplayLiveSaid : Prop := replayLiveRow.holds Try.pinned (OpenSpec.ofChange replayLiveSpec)

/-- ITS FALSE NEIGHBOUR: 'it returns false'. Refute it at one input. -/
def replayLiveWrong : ChangeSpec := { name := "replayLive", fn := fun _ => fun
  | [d] => { results := [.lit (.bool false)], args := [d] }
  | _ => none }
def ReplayLiveWrongFalsely : Prop := replayLiveRow.holds Try.pinned (OpenSpec.ofChange replayLiveWrong)

/-- 'spencelaw19.IndexFloors': WHATEVER THE INPUT: true; the input reads as it did. -/
def indexFloorsSpec : ChangeSpec := { name := "indexFloors", fn := fun _ => fun
  | [d1, d2] => { results := [.lit (.bool true)], args := [d1, d2] }
  | _ => none }
def indexFloorsRow : OpenClaim := { program := "ytoipfdbdifoecaa", sum := "7dfad37085d760b881446b21548e0eb8871274c2867ecf6dcdbcf596995033eb", func := "spence/spencelaw19.IndexFloors", spec := "indexFloors", inPlace := ["maps.clone"], unfollowed := true, recurses := true, apart := false }
def IndexFloorsSaid : Prop := indexFloorsRow.holds Try.pinned (OpenSpec.ofChange indexFloorsSpec)

/-- ITS FALSE NEIGHBOUR: 'it returns false'. Refute it at one input. -/
def indexFloorsWrong : ChangeSpec := { name := "indexFloors", fn := fun _ => fun
  | [d1, d2] => { results := [.lit (.bool false)], args := [d1, d2] }
  | _ => none }
def IndexFloorsWrongFalsely : Prop := indexFloorsRow.holds Try.pinned (OpenSpec.ofChange indexFloorsWrong)

/-- 'spencelaw20.ReplayWithin': WHATEVER THE INPUT: true; the input reads as it did. -/
def replayWithinSpec : ChangeSpec := { name := "replayWithin", fn := fun _ => fun
  | [d1, d2] => { results := [.lit (.bool true)], args := [d1, d2] }
  | _ => none }
def replayWithinRow : OpenClaim := { program := "ytoipfdbdifoecaa", sum := "7dfad37085d760b881446b21548e0eb8871274c2867ecf6dcdbcf596995033eb", func := "spence/spencelaw20.ReplayWithin", spec := "replayWithin", inPlace := ["maps.clone"], unfollowed := true, recurses := true, apart := false }
def ReplayWithinSaid : Prop := replayWithinRow.holds Try.pinned (OpenSpec.ofChange replayWithinSpec)

/-- ITS FALSE NEIGHBOUR: 'it returns false'. Refute it at one input. -/
def replayWithinWrong : ChangeSpec := { name := "replayWithin", fn := fun _ => fun
  | [d1, d2] => { results := [.lit (.bool false)], args := [d1, d2] }
  | _ => none }
def ReplayWithinWrongFalsely : Prop := replayWithinRow.holds Try.pinned (OpenSpec.ofChange replayWithinWrong)

/- THE SECOND FORM. 'bulk': how many values and letters a reading holds, each counted each time it is reached (what is shared counts as often as it is met; a slice's spare places count too). A statement '..UptoSaid' is the law's where the arguments, and the package variables that the reading takes, are together of bulk at most 1048576: NARROWER than '..Said'. Prove '..Said' where nothing that the law and all that it calls make is longer than what came in: it says more and counts as full. Else prove '..UptoSaid'. A law counts once. -/
mutual
def uptoBulk {H : Type} : DataW H → Nat
  | .lit (.string bytes) => bytes.length + 1
  | .lit _ => 1
  | .nil => 1
  | .ptr d => uptoBulk d + 1
  | .slice elems spare => uptoBulkAll elems + uptoBulkAll spare + 1
  | .agg parts => uptoBulkAll parts + 1
  | .iface _ d => uptoBulk d + 1
  | .map entries => uptoBulkEntries entries + 1
  | .held _ => 1
def uptoBulkAll {H : Type} : List (DataW H) → Nat
  | [] => 0
  | d :: r => uptoBulk d + uptoBulkAll r
def uptoBulkEntries {H : Type} : List (Lit × DataW H) → Nat
  | [] => 0
  | x :: r => uptoBulkEntry x + uptoBulkEntries r
def uptoBulkEntry {H : Type} : Lit × DataW H → Nat
  | (.string bytes, d) => bytes.length + uptoBulk d + 1
  | (_, d) => uptoBulk d + 1
 end
def uptoSmall : (H : Type) → List (DataW H) → Bool := fun _ ds => decide (uptoBulkAll ds ≤ 1048576)
def OpenSpec.upto (s : _root_.Go.ChangeSpec) : _root_.Go.OpenSpec := { _root_.Go.OpenSpec.ofChange s with cond := some uptoSmall }

/-- 'spencelaw20.ReplayOrder', WHERE WHAT IT READS IS OF BULK AT MOST 1048576: true; the input reads as it did. -/
def replayOrderUptoRow : OpenClaim := { program := "ytoipfdbdifoecaa", sum := "7dfad37085d760b881446b21548e0eb8871274c2867ecf6dcdbcf596995033eb", func := "spence/spencelaw20.ReplayOrder", spec := "replayOrder", inPlace := ["maps.clone"], unfollowed := true, recurses := true, apart := false, narrowed := true }
def ReplayOrderUptoSaid : Prop := replayOrderUptoRow.holds Try.pinned (OpenSpec.upto replayOrderSpec)

/-- 'spencelaw20.ReplayLive', WHERE WHAT IT READS IS OF BULK AT MOST 1048576: true; the input reads as it did. -/
def replayLiveUptoRow : OpenClaim := { program := "ytoipfdbdifoecaa", sum := "7dfad37085d760b881446b21548e0eb8871274c2867ecf6dcdbcf596995033eb", func := "spence/spencelaw20.ReplayLive", spec := "replayLive", inPlace := ["maps.clone"], unfollowed := true, recurses := true, apart := false, narrowed := true }
def ReplayLiveUptoSaid : Prop := replayLiveUptoRow.holds Try.pinned (OpenSpec.upto replayLiveSpec)

/-- 'spencelaw19.IndexFloors', WHERE WHAT IT READS IS OF BULK AT MOST 1048576: true; the input reads as it did. -/
def indexFloorsUptoRow : OpenClaim := { program := "ytoipfdbdifoecaa", sum := "7dfad37085d760b881446b21548e0eb8871274c2867ecf6dcdbcf596995033eb", func := "spence/spencelaw19.IndexFloors", spec := "indexFloors", inPlace := ["maps.clone"], unfollowed := true, recurses := true, apart := false, narrowed := true }
def IndexFloorsUptoSaid : Prop := indexFloorsUptoRow.holds Try.pinned (OpenSpec.upto indexFloorsSpec)

/-- 'spencelaw20.ReplayWithin', WHERE WHAT IT READS IS OF BULK AT MOST 1048576: true; the input reads as it did. -/
def replayWithinUptoRow : OpenClaim := { program := "ytoipfdbdifoecaa", sum := "7dfad37085d760b881446b21548e0eb8871274c2867ecf6dcdbcf596995033eb", func := "spence/spencelaw20.ReplayWithin", spec := "replayWithin", inPlace := ["maps.clone"], unfollowed := true, recurses := true, apart := false, narrowed := true }
def ReplayWithinUptoSaid : Prop := replayWithinUptoRow.holds Try.pinned (OpenSpec.upto replayWithinSpec)

end Rows
end Go.Proofs.Ytoipfdbdifoecaa
