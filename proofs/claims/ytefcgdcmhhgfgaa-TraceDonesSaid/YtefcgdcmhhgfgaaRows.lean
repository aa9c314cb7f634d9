/-
  No cell of these rows narrows 'for every input' (looked for: loops, veiled, ifaces, maps, wideKeys, modest, calm, conditions, laid).
  DERIVED. THE GIVEN ROWS OF THIS SEAT. 9 by the template 'for every input the law returns true; each argument reads behind the call as it read before'; 0 by the template 'total and deterministic' (their statements: YtefcgdcmhhgfgaaTotals.lean).
  GIVEN WITH THE SEED: the statements are not yours to turn. If you find one false, say at which input.
  Laid BY PROGRAM, IN A SANDBOX (cutbox-rows.mjs): the forced cells as the released guide's own fill.sh prints them over the translation e9b41ac967e3bcf7… (all of the seat's roots in one cut). By AI agents, Wed Nov 11 2026. No macro, syntax, notation, axiom, sorry.
-/
import Derived.Test.YtefcgdcmhhgfgaaChecked
import GoSem.Claim
import GoSem.ClaimJoined
import GoSem.ClaimMapViews
import Derived.JoinedTies
import Derived.KernelRfl
namespace Go.Proofs.Ytefcgdcmhhgfgaa
/- THE CELL 'sum', in the pinned program and in every row, IS THE sha256 OF THE DUMP (.gsa) THAT YtefcgdcmhhgfgaaProg.lean LOADS. Nothing in Lean hashes anything: it is a label: what it is worth is what the hold of that sum in a sandbox is worth. -/
noncomputable def Try.pinned : Pinned := { name := "ytefcgdcmhhgfgaa", sum := "e9b41ac967e3bcf7b4582105c98d7ec443e815e065a0b4acb9986188ce00e220", checked := Try.checked }
namespace Rows
def none {H : Type} : Left H := { results := [], args := [] }

/-- 'spencelaw26.AdmitDoes': WHATEVER THE INPUT: true; the input reads as it did. -/
def admitDoesSpec : ChangeSpec := { name := "admitDoes", fn := fun _ => fun
  | [d1, d2, d3, d4] => { results := [.lit (.bool true)], args := [d1, d2, d3, d4] }
  | _ => none }
def admitDoesRow : OpenClaim := { program := "ytefcgdcmhhgfgaa", sum := "e9b41ac967e3bcf7b4582105c98d7ec443e815e065a0b4acb9986188ce00e220", func := "spence/spencelaw26.AdmitDoes", spec := "admitDoes", apart := false }
def AdmitDoesSaid : Prop := admitDoesRow.holds Try.pinned (OpenSpec.ofChange admitDoesSpec)

/-- ITS FALSE NEIGHBOUR: 'it returns false'. Refute it at one input. -/
def admitDoesWrong : ChangeSpec := { name := "admitDoes", fn := fun _ => fun
  | [d1, d2, d3, d4] => { results := [.lit (.bool false)], args := [d1, d2, d3, d4] }
  | _ => none }
def AdmitDoesWrongFalsely : Prop := admitDoesRow.holds Try.pinned (OpenSpec.ofChange admitDoesWrong)

/-- 'spencelaw26.AdmitTwice': WHATEVER THE INPUT: true; the input reads as it did. -/
def admitTwiceSpec : ChangeSpec := { name := "admitTwice", fn := fun _ => fun
  | [d1, d2, d3] => { results := [.lit (.bool true)], args := [d1, d2, d3] }
  | _ => none }
def admitTwiceRow : OpenClaim := { program := "ytefcgdcmhhgfgaa", sum := "e9b41ac967e3bcf7b4582105c98d7ec443e815e065a0b4acb9986188ce00e220", func := "spence/spencelaw26.AdmitTwice", spec := "admitTwice", apart := false }
def AdmitTwiceSaid : Prop := admitTwiceRow.holds Try.pinned (OpenSpec.ofChange admitTwiceSpec)

/-- ITS FALSE NEIGHBOUR: 'it returns false'. Refute it at one input. -/
def admitTwiceWrong : ChangeSpec := { name := "admitTwice", fn := fun _ => fun
  | [d1, d2, d3] => { results := [.lit (.bool false)], args := [d1, d2, d3] }
  | _ => none }
def AdmitTwiceWrongFalsely : Prop := admitTwiceRow.holds Try.pinned (OpenSpec.ofChange admitTwiceWrong)

/-- 'spencelaw06.SpanResolves': WHATEVER THE INPUT: true; the input reads as it did. -/
def spanResolvesSpec : ChangeSpec := { name := "spanResolves", fn := fun _ => fun
  | [d1, d2] => { results := [.lit (.bool true)], args := [d1, d2] }
  | _ => none }
def spanResolvesRow : OpenClaim := { program := "ytefcgdcmhhgfgaa", sum := "e9b41ac967e3bcf7b4582105c98d7ec443e815e065a0b4acb9986188ce00e220", func := "spence/spencelaw06.SpanResolves", spec := "spanResolves", apart := false }
def SpanResolvesSaid : Prop := spanResolvesRow.holds Try.pinned (OpenSpec.ofChange spanResolvesSpec)

/-- ITS FALSE NEIGHBOUR: 'it returns false'. Refute it at one input. -/
def spanResolvesWrong : ChangeSpec := { name := "spanResolves", fn := fun _ => fun
  | [d1, d2] => { results := [.lit (.bool false)], args := [d1, d2] }
  | _ => none }
def SpanResolvesWrongFalsely : Prop := spanResolvesRow.holds Try.pinned (OpenSpec.ofChange spanResolvesWrong)

/-- 'spencelaw06.SpanTells': WHATEVER THE INPUT: true; the input reads as it did. -/
def spanTellsSpec : ChangeSpec := { name := "spanTells", fn := fun _ => fun
  | [d1, d2, d3, d4] => { results := [.lit (.bool true)], args := [d1, d2, d3, d4] }
  | _ => none }
def spanTellsRow : OpenClaim := { program := "ytefcgdcmhhgfgaa", sum := "e9b41ac967e3bcf7b4582105c98d7ec443e815e065a0b4acb9986188ce00e220", func := "spence/spencelaw06.SpanTells", spec := "spanTells", unfollowed := true, recurses := true, apart := false }
def SpanTellsSaid : Prop := spanTellsRow.holds Try.pinned (OpenSpec.ofChange spanTellsSpec)

/-- ITS FALSE NEIGHBOUR: 'it returns false'. Refute it at one input. -/
def spanTellsWrong : ChangeSpec := { name := "spanTells", fn := fun _ => fun
  | [d1, d2, d3, d4] => { results := [.lit (.bool false)], args := [d1, d2, d3, d4] }
  | _ => none }
def SpanTellsWrongFalsely : Prop := spanTellsRow.holds Try.pinned (OpenSpec.ofChange spanTellsWrong)

/-- 'spencelaw44.TraceMoves': WHATEVER THE INPUT: true; the input reads as it did. -/
def traceMovesSpec : ChangeSpec := { name := "traceMoves", fn := fun _ => fun
  | [d1, d2, d3] => { results := [.lit (.bool true)], args := [d1, d2, d3] }
  | _ => none }
def traceMovesRow : OpenClaim := { program := "ytefcgdcmhhgfgaa", sum := "e9b41ac967e3bcf7b4582105c98d7ec443e815e065a0b4acb9986188ce00e220", func := "spence/spencelaw44.TraceMoves", spec := "traceMoves", inPlace := ["internal/abi.NoEscape", "internal/bytealg.MakeNoZero"], unfollowed := true, recurses := true, apart := false }
def TraceMovesSaid : Prop := traceMovesRow.holds Try.pinned (OpenSpec.ofChange traceMovesSpec)

/-- ITS FALSE NEIGHBOUR: 'it returns false'. Refute it at one input. -/
def traceMovesWrong : ChangeSpec := { name := "traceMoves", fn := fun _ => fun
  | [d1, d2, d3] => { results := [.lit (.bool false)], args := [d1, d2, d3] }
  | _ => none }
def TraceMovesWrongFalsely : Prop := traceMovesRow.holds Try.pinned (OpenSpec.ofChange traceMovesWrong)

/-- 'spencelaw44.TraceDones': WHATEVER THE INPUT: true; the input reads as it did. -/
def traceDonesSpec : ChangeSpec := { name := "traceDones", fn := fun _ => fun
  | [d1, d2] => { results := [.lit (.bool true)], args := [d1, d2] }
  | _ => none }
def traceDonesRow : OpenClaim := { program := "ytefcgdcmhhgfgaa", sum := "e9b41ac967e3bcf7b4582105c98d7ec443e815e065a0b4acb9986188ce00e220", func := "spence/spencelaw44.TraceDones", spec := "traceDones", inPlace := ["internal/abi.NoEscape", "internal/bytealg.MakeNoZero"], unfollowed := true, recurses := true, apart := false }
def TraceDonesSaid : Prop := traceDonesRow.holds Try.pinned (OpenSpec.ofChange traceDonesSpec)

/-- ITS FALSE NEIGHBOUR: 'it returns false'. Refute it at one input. -/
def traceDonesWrong : ChangeSpec := { name := "traceDones", fn := fun _ => fun
  | [d1, d2] => { results := [.lit (.bool false)], args := [d1, d2] }
  | _ => none }
def TraceDonesWrongFalsely : Prop := traceDonesRow.holds Try.pinned (OpenSpec.ofChange traceDonesWrong)

/-- 'spencelaw20.ReplayOrder': WHATEVER THE INPUT: true; the input reads as it did. -/
def replayOrderSpec : ChangeSpec := { name := "replayOrder", fn := fun _ => fun
  | [d1, d2] => { results := [.lit (.bool true)], args := [d1, d2] }
  | _ => none }
def replayOrderRow : OpenClaim := { program := "ytefcgdcmhhgfgaa", sum := "e9b41ac967e3bcf7b4582105c98d7ec443e815e065a0b4acb9986188ce00e220", func := "spence/spencelaw20.ReplayOrder", spec := "replayOrder", inPlace := ["maps.clone"], unfollowed := true, recurses := true, apart := false }
def ReplayOrderSaid : Prop := replayOrderRow.holds Try.pinned (OpenSpec.ofChange replayOrderSpec)

/-- ITS FALSE NEIGHBOUR: 'it returns false'. Refute it at one input. -/
def replayOrderWrong : ChangeSpec := { name := "replayOrder", fn := fun _ => fun
  | [d1, d2] => { results := [.lit (.bool false)], args := [d1, d2] }
  | _ => none }
def ReplayOrderWrongFalsely : Prop := replayOrderRow.holds Try.pinned (OpenSpec.ofChange replayOrderWrong)

/-- 'spencelaw20.ReplayLive': WHATEVER THE INPUT: true; the input reads as it did. -/
def replayLiveSpec : ChangeSpec := { name := "replayLive", fn := fun _ => fun
  | [d] => { results := [.lit (.bool true)], args := [d] }
  | _ => none }
def replayLiveRow : OpenClaim := { program := "ytefcgdcmhhgfgaa", sum := "e9b41ac967e3bcf7b4582105c98d7ec443e815e065a0b4acb9986188ce00e220", func := "spence/spencelaw20.ReplayLive", spec := "replayLive", inPlace := ["maps.clone"], unfollowed := true, recurses := true, apart := false }
def ReplayLiveSaid : Prop := replayLiveRow.holds Try.pinned (OpenSpec.ofChange replayLiveSpec)

/-- ITS FALSE NEIGHBOUR: 'it returns false'. Refute it at one input. -/
def replayLiveWrong : ChangeSpec := { name := "replayLive", fn := fun _ => fun
  | [d] => { results := [.lit (.bool false)], args := [d] }
  | _ => none }
def ReplayLiveWrongFalsely : Prop := replayLiveRow.holds Try.pinned (OpenSpec.ofChange replayLiveWrong)

/-- 'spencelaw06.SpanMerges': WHATEVER THE INPUT: true; the input reads as it did. -/
def spanMergesSpec : ChangeSpec := { name := "spanMerges", fn := fun _ => fun
  | [d1, d2, d3, d4] => { results := [.lit (.bool true)], args := [d1, d2, d3, d4] }
  | _ => none }
def spanMergesRow : OpenClaim := { program := "ytefcgdcmhhgfgaa", sum := "e9b41ac967e3bcf7b4582105c98d7ec443e815e065a0b4acb9986188ce00e220", func := "spence/spencelaw06.SpanMerges", spec := "spanMerges", unfollowed := true, recurses := true, apart := false }
def SpanMergesSaid : Prop := spanMergesRow.holds Try.pinned (OpenSpec.ofChange spanMergesSpec)

/-- ITS FALSE NEIGHBOUR: 'it returns false'. Refute it at one input. -/
def spanMergesWrong : ChangeSpec := { name := "spanMerges", fn := fun _ => fun
  | [d1, d2, d3, d4] => { results := [.lit (.bool false)], args := [d1, d2, d3, d4] }
  | _ => none }
def SpanMergesWrongFalsely : Prop := spanMergesRow.holds Try.pinned (OpenSpec.ofChange spanMergesWrong)

/- THE SECOND FORM. 'bulk': how many values and letters a reading holds, each counted each time it is reached (what is shared counts as often as it is met; a slice's spare places count too). A statement '..UptoSaid' is the law's where the arguments, and the package variables that the reading takes, are together of bulk at most 1048576: NARROWER than '..Said'. Prove '..Said' where nothing that the law and all that it calls make is longer than what came in: it says more and counts as full. Else prove '..UptoSaid'. A law counts once. -/
mutual
def uptoBulk {H : Type} : DataW H → Nat
  | .lit (.string bytes) => bytes.length + 1
  | .lit _ => 1
  | .nil => 1
  | .ptr d => uptoBulk d + 1
  | .slice elems spare => uptoBulkAll elems + uptoBulkAll spare + 1
  | .agg parts => uptoBulkAll parts + 1
  | .iface _ d => uptoBulk d + 1
  | .map entries => uptoBulkEntries entries + 1
  | .held _ => 1
def uptoBulkAll {H : Type} : List (DataW H) → Nat
  | [] => 0
  | d :: r => uptoBulk d + uptoBulkAll r
def uptoBulkEntries {H : Type} : List (Lit × DataW H) → Nat
  | [] => 0
  | x :: r => uptoBulkEntry x + uptoBulkEntries r
def uptoBulkEntry {H : Type} : Lit × DataW H → Nat
  | (.string bytes, d) => bytes.length + uptoBulk d + 1
  | (_, d) => uptoBulk d + 1
 end
def uptoSmall : (H : Type) → List (DataW H) → Bool := fun _ ds => decide (uptoBulkAll ds ≤ 1048576)
def OpenSpec.upto (s : _root_.Go.ChangeSpec) : _root_.Go.OpenSpec := { _root_.Go.OpenSpec.ofChange s with cond := some uptoSmall }

/-- 'spencelaw26.AdmitDoes', WHERE WHAT IT READS IS OF BULK AT MOST 1048576: true; the input reads as it did. -/
def admitDoesUptoRow : OpenClaim := { program := "ytefcgdcmhhgfgaa", sum := "e9b41ac967e3bcf7b4582105c98d7ec443e815e065a0b4acb9986188ce00e220", func := "spence/spencelaw26.AdmitDoes", spec := "admitDoes", apart := false, narrowed := true }
def AdmitDoesUptoSaid : Prop := admitDoesUptoRow.holds Try.pinned (OpenSpec.upto admitDoesSpec)

/-- 'spencelaw26.AdmitTwice', WHERE WHAT IT READS IS OF BULK AT MOST 1048576: true; the input reads as it did. -/
def admitTwiceUptoRow : OpenClaim := { program := "ytefcgdcmhhgfgaa", sum := "e9b41ac967e3bcf7b4582105c98d7ec443e815e065a0b4acb9986188ce00e220", func := "spence/spencelaw26.AdmitTwice", spec := "admitTwice", apart := false, narrowed := true }
def AdmitTwiceUptoSaid : Prop := admitTwiceUptoRow.holds Try.pinned (OpenSpec.upto admitTwiceSpec)

/-- 'spencelaw06.SpanResolves', WHERE WHAT IT READS IS OF BULK AT MOST 1048576: true; the input reads as it did. -/
def spanResolvesUptoRow : OpenClaim := { program := "ytefcgdcmhhgfgaa", sum := "e9b41ac967e3bcf7b4582105c98d7ec443e815e065a0b4acb9986188ce00e220", func := "spence/spencelaw06.SpanResolves", spec := "spanResolves", apart := false, narrowed := true }
def SpanResolvesUptoSaid : Prop := spanResolvesUptoRow.holds Try.pinned (OpenSpec.upto spanResolvesSpec)

/-- 'spencelaw06.SpanTells', WHERE WHAT IT READS IS OF BULK AT MOST 1048576: true; the input reads as it did. -/
def spanTellsUptoRow : OpenClaim := { program := "ytefcgdcmhhgfgaa", sum := "e9b41ac967e3bcf7b4582105c98d7ec443e815e065a0b4acb9986188ce00e220", func := "spence/spencelaw06.SpanTells", spec := "spanTells", unfollowed := true, recurses := true, apart := false, narrowed := true }
def SpanTellsUptoSaid : Prop := spanTellsUptoRow.holds Try.pinned (OpenSpec.upto spanTellsSpec)

/-- 'spencelaw44.TraceMoves', WHERE WHAT IT READS IS OF BULK AT MOST 1048576: true; the input reads as it did. -/
def traceMovesUptoRow : OpenClaim := { program := "ytefcgdcmhhgfgaa", sum := "e9b41ac967e3bcf7b4582105c98d7ec443e815e065a0b4acb9986188ce00e220", func := "spence/spencelaw44.TraceMoves", spec := "traceMoves", inPlace := ["internal/abi.NoEscape", "internal/bytealg.MakeNoZero"], unfollowed := true, recurses := true, apart := false, narrowed := true }
def TraceMovesUptoSaid : Prop := traceMovesUptoRow.holds Try.pinned (OpenSpec.upto traceMovesSpec)

/-- 'spencelaw44.TraceDones', WHERE WHAT IT READS IS OF BULK AT MOST 1048576: true; the input reads as it did. -/
def traceDonesUptoRow : OpenClaim := { program := "ytefcgdcmhhgfgaa", sum := "e9b41ac967e3bcf7b4582105c98d7ec443e815e065a0b4acb9986188ce00e220", func := "spence/spencelaw44.TraceDones", spec := "traceDones", inPlace := ["internal/abi.NoEscape", "internal/bytealg.MakeNoZero"], unfollowed := true, recurses := true, apart := false, narrowed := true }
def TraceDonesUptoSaid : Prop := traceDonesUptoRow.holds Try.pinned (OpenSpec.upto traceDonesSpec)

/-- 'spencelaw20.ReplayOrder', WHERE WHAT IT READS IS OF BULK AT MOST 1048576: true; the input reads as it did. -/
def replayOrderUptoRow : OpenClaim := { program := "ytefcgdcmhhgfgaa", sum := "e9b41ac967e3bcf7b4582105c98d7ec443e815e065a0b4acb9986188ce00e220", func := "spence/spencelaw20.ReplayOrder", spec := "replayOrder", inPlace := ["maps.clone"], unfollowed := true, recurses := true, apart := false, narrowed := true }
def ReplayOrderUptoSaid : Prop := replayOrderUptoRow.holds Try.pinned (OpenSpec.upto replayOrderSpec)

/-- 'spencelaw20.ReplayLive', WHERE WHAT IT READS IS OF BULK AT MOST 1048576: true; the input reads as it did. -/
def replayLiveUptoRow : OpenClaim := { program := "ytefcgdcmhhgfgaa", sum := "e9b41ac967e3bcf7b4582105c98d7ec443e815e065a0b4acb9986188ce00e220", func := "spence/spencelaw20.ReplayLive", spec := "replayLive", inPlace := ["maps.clone"], unfollowed := true, recurses := true, apart := false, narrowed := true }
def ReplayLiveUptoSaid : Prop := replayLiveUptoRow.holds Try.pinned (OpenSpec.upto replayLiveSpec)

/-- 'spencelaw06.SpanMerges', WHERE WHAT IT READS IS OF BULK AT MOST 1048576: true; the input reads as it did. -/
def spanMergesUptoRow : OpenClaim := { program := "ytefcgdcmhhgfgaa", sum := "e9b41ac967e3bcf7b4582105c98d7ec443e815e065a0b4acb9986188ce00e220", func := "spence/spencelaw06.SpanMerges", spec := "spanMerges", unfollowed := true, recurses := true, apart := false, narrowed := true }
def SpanMergesUptoSaid : Prop := spanMergesUptoRow.holds Try.pinned (OpenSpec.upto spanMergesSpec)

end Rows
end Go.Proofs.Ytefcgdcmhhgfgaa
