/-
  NARROWER THAN 'FOR EVERY INPUT', by the rows' own cells (each row's printed sentence says how): MultiPuts: laid · MultiBack: laid · MultiReads: laid · StatDones: laid · IfrangeWithin: laid · IfrangeOne: laid.
  DERIVED. THE GIVEN ROWS OF THIS SEAT. 6 by the template 'for every input the law returns true; each argument reads behind the call as it read before'; 0 by the template 'total and deterministic' (their statements: YtpibecljdooilaaDoorTotals.lean).
  GIVEN WITH THE SEED: the statements are not yours to turn. If you find one false, say at which input.
  Laid BY PROGRAM, IN A SANDBOX (cutbox-rows.mjs): the forced cells as the released guide's own fill.sh prints them over the translation ccb8e29b647aa7b4… (all of the seat's roots in one cut). By AI agents, Wed Nov 11 2026. No macro, syntax, notation, axiom, sorry.
-/
import Derived.Test.YtpibecljdooilaaDoorChecked
import GoSem.PinnedTables
import GoSem.Claim
import GoSem.ClaimJoined
import GoSem.ClaimMapViews
import Derived.JoinedTies
import Derived.KernelRfl
namespace Go.Proofs.YtpibecljdooilaaDoor
/- THE CELL 'sum', in the pinned program and in every row, IS THE sha256 OF THE DUMP (.gsa) THAT YtpibecljdooilaaDoorProg.lean LOADS. Nothing in Lean hashes anything: it is a label: what it is worth is what the hold of that sum in a sandbox is worth. -/
noncomputable def Tryd.pinned : Pinned := { name := "ytpibecljdooilaadoor", sum := "ccb8e29b647aa7b4f44fd28db0ec5d550febc3361321638afc9a8cfbc4c97527", checked := Tryd.checked }
namespace Rows
def none {H : Type} : Left H := { results := [], args := [] }

/- WHAT THE LISTED PACKAGE-LEVEL VARIABLES READ AS WHEN THE CALL BEGINS. Each datum BY PROGRAM (the guide's laid-datum.mjs) off the statement by which the dump's own 'gosem.cut.vars' lays the variable. In a bare row this is a premise. The card (YtpibecljdooilaaDoorCards.lean) ties it to the program's text. -/
def laid_bytes_ErrTooLarge {H : Type} : DataW H := .iface "*errors.errorString" (.ptr (.agg [.lit (.string [98, 121, 116, 101, 115, 46, 66, 117, 102, 102, 101, 114, 58, 32, 116, 111, 111, 32, 108, 97, 114, 103, 101])]))
def laid_errors_errorType {H : Type} : DataW H := .iface "internal/reflectlite.rtype" (.agg [.ptr (.lit (.string [101, 114, 114, 111, 114]))])
def laid_unicode_utf8_acceptRanges {H : Type} : DataW H := .agg [.agg [.lit (.int .u8 128), .lit (.int .u8 191)], .agg [.lit (.int .u8 160), .lit (.int .u8 191)], .agg [.lit (.int .u8 128), .lit (.int .u8 159)], .agg [.lit (.int .u8 144), .lit (.int .u8 191)], .agg [.lit (.int .u8 128), .lit (.int .u8 143)], .agg [.lit (.int .u8 0), .lit (.int .u8 0)], .agg [.lit (.int .u8 0), .lit (.int .u8 0)], .agg [.lit (.int .u8 0), .lit (.int .u8 0)], .agg [.lit (.int .u8 0), .lit (.int .u8 0)], .agg [.lit (.int .u8 0), .lit (.int .u8 0)], .agg [.lit (.int .u8 0), .lit (.int .u8 0)], .agg [.lit (.int .u8 0), .lit (.int .u8 0)], .agg [.lit (.int .u8 0), .lit (.int .u8 0)], .agg [.lit (.int .u8 0), .lit (.int .u8 0)], .agg [.lit (.int .u8 0), .lit (.int .u8 0)], .agg [.lit (.int .u8 0), .lit (.int .u8 0)]]
/-- One of Go's own tables, pinned by name: the form's constant. -/
def laid_unicode_utf8_first : DataW Unit := Go.Pinned.utf8First

/-- 'spencelaw08.MultiPuts': WHATEVER THE INPUT: true; the input reads as it did. -/
def multiPutsSpec : ChangeSpec := { name := "multiPuts", fn := fun _ => fun
  | [d1, d2, d3] => { results := [.lit (.bool true)], args := [d1, d2, d3] }
  | _ => none }
def multiPutsRow : OpenClaim := { program := "ytpibecljdooilaadoor", sum := "ccb8e29b647aa7b4f44fd28db0ec5d550febc3361321638afc9a8cfbc4c97527", func := "spence/spencelaw08.MultiPuts", spec := "multiPuts", named := ["bytes.ErrTooLarge"], apart := false, laid := [("bytes.ErrTooLarge", laid_bytes_ErrTooLarge)] }
def MultiPutsSaid : Prop := multiPutsRow.holds Tryd.pinned (OpenSpec.ofChange multiPutsSpec)

/-- ITS FALSE NEIGHBOUR: 'it returns false'. Refute it at one input. -/
def multiPutsWrong : ChangeSpec := { name := "multiPuts", fn := fun _ => fun
  | [d1, d2, d3] => { results := [.lit (.bool false)], args := [d1, d2, d3] }
  | _ => none }
def MultiPutsWrongFalsely : Prop := multiPutsRow.holds Tryd.pinned (OpenSpec.ofChange multiPutsWrong)

/-- 'spencelaw08.MultiBack': WHATEVER THE INPUT: true; the input reads as it did. -/
def multiBackSpec : ChangeSpec := { name := "multiBack", fn := fun _ => fun
  | [d1, d2, d3] => { results := [.lit (.bool true)], args := [d1, d2, d3] }
  | _ => none }
def multiBackRow : OpenClaim := { program := "ytpibecljdooilaadoor", sum := "ccb8e29b647aa7b4f44fd28db0ec5d550febc3361321638afc9a8cfbc4c97527", func := "spence/spencelaw08.MultiBack", spec := "multiBack", inPlace := ["internal/bytealg.IndexByte", "internal/bytealg.Index", "internal/bytealg.IndexByteString", "internal/reflectlite.ValueOf", "(internal/reflectlite.Value).Type", "(internal/reflectlite.Value).IsNil", "internal/reflectlite.TypeOf", "(internal/reflectlite.Value).Elem", "(internal/reflectlite.Value).Set"], unfollowed := true, recurses := true, named := ["bytes.ErrTooLarge", "internal/bytealg.MaxLen", "errors.errorType"], apart := false, laid := [("errors.errorType", laid_errors_errorType), ("bytes.ErrTooLarge", laid_bytes_ErrTooLarge)] }
def MultiBackSaid : Prop := multiBackRow.holds Tryd.pinned (OpenSpec.ofChange multiBackSpec)

/-- ITS FALSE NEIGHBOUR: 'it returns false'. Refute it at one input. -/
def multiBackWrong : ChangeSpec := { name := "multiBack", fn := fun _ => fun
  | [d1, d2, d3] => { results := [.lit (.bool false)], args := [d1, d2, d3] }
  | _ => none }
def MultiBackWrongFalsely : Prop := multiBackRow.holds Tryd.pinned (OpenSpec.ofChange multiBackWrong)

/-- 'spencelaw08.MultiReads': WHATEVER THE INPUT: true; the input reads as it did. -/
def multiReadsSpec : ChangeSpec := { name := "multiReads", fn := fun _ => fun
  | [d1, d2, d3, d4, d5] => { results := [.lit (.bool true)], args := [d1, d2, d3, d4, d5] }
  | _ => none }
def multiReadsRow : OpenClaim := { program := "ytpibecljdooilaadoor", sum := "ccb8e29b647aa7b4f44fd28db0ec5d550febc3361321638afc9a8cfbc4c97527", func := "spence/spencelaw08.MultiReads", spec := "multiReads", inPlace := ["internal/bytealg.IndexByte", "internal/bytealg.Index", "internal/bytealg.IndexByteString", "internal/reflectlite.ValueOf", "(internal/reflectlite.Value).Type", "(internal/reflectlite.Value).IsNil", "internal/reflectlite.TypeOf", "(internal/reflectlite.Value).Elem", "(internal/reflectlite.Value).Set"], unfollowed := true, recurses := true, named := ["bytes.ErrTooLarge", "internal/bytealg.MaxLen", "errors.errorType"], apart := false, laid := [("errors.errorType", laid_errors_errorType), ("bytes.ErrTooLarge", laid_bytes_ErrTooLarge)] }
def MultiReadsSaid : Prop := multiReadsRow.holds Tryd.pinned (OpenSpec.ofChange multiReadsSpec)

/-- ITS FALSE NEIGHBOUR: 'it returns false'. Refute it at one input. -/
def multiReadsWrong : ChangeSpec := { name := "multiReads", fn := fun _ => fun
  | [d1, d2, d3, d4, d5] => { results := [.lit (.bool false)], args := [d1, d2, d3, d4, d5] }
  | _ => none }
def MultiReadsWrongFalsely : Prop := multiReadsRow.holds Tryd.pinned (OpenSpec.ofChange multiReadsWrong)

/-- 'spencelaw45.StatDones': WHATEVER THE INPUT: true; the input reads as it did. -/
def statDonesSpec : ChangeSpec := { name := "statDones", fn := fun _ => fun
  | [d1, d2] => { results := [.lit (.bool true)], args := [d1, d2] }
  | _ => none }
def statDonesRow : OpenClaim := { program := "ytpibecljdooilaadoor", sum := "ccb8e29b647aa7b4f44fd28db0ec5d550febc3361321638afc9a8cfbc4c97527", func := "spence/spencelaw45.StatDones", spec := "statDones", inPlace := ["internal/bytealg.IndexByte", "internal/bytealg.Index", "internal/bytealg.IndexByteString", "internal/reflectlite.ValueOf", "(internal/reflectlite.Value).Type", "(internal/reflectlite.Value).IsNil", "internal/reflectlite.TypeOf", "(internal/reflectlite.Value).Elem", "(internal/reflectlite.Value).Set"], unfollowed := true, recurses := true, named := ["internal/bytealg.MaxLen", "errors.errorType", "bytes.ErrTooLarge"], apart := false, laid := [("errors.errorType", laid_errors_errorType), ("bytes.ErrTooLarge", laid_bytes_ErrTooLarge)] }
def StatDonesSaid : Prop := statDonesRow.holds Tryd.pinned (OpenSpec.ofChange statDonesSpec)

/-- ITS FALSE NEIGHBOUR: 'it returns false'. Refute it at one input. -/
def statDonesWrong : ChangeSpec := { name := "statDones", fn := fun _ => fun
  | [d1, d2] => { results := [.lit (.bool false)], args := [d1, d2] }
  | _ => none }
def StatDonesWrongFalsely : Prop := statDonesRow.holds Tryd.pinned (OpenSpec.ofChange statDonesWrong)

/-- 'spencelaw09.IfrangeWithin': WHATEVER THE INPUT: true; the input reads as it did. -/
def ifrangeWithinSpec : ChangeSpec := { name := "ifrangeWithin", fn := fun _ => fun
  | [d1, d2, d3, d4, d5] => { results := [.lit (.bool true)], args := [d1, d2, d3, d4, d5] }
  | _ => none }
def ifrangeWithinRow : OpenClaim := { program := "ytpibecljdooilaadoor", sum := "ccb8e29b647aa7b4f44fd28db0ec5d550febc3361321638afc9a8cfbc4c97527", func := "spence/spencelaw09.IfrangeWithin", spec := "ifrangeWithin", inPlace := ["internal/bytealg.IndexByteString", "internal/bytealg.IndexString"], unfollowed := true, recurses := true, named := ["unicode/utf8.first", "unicode/utf8.acceptRanges", "internal/bytealg.MaxLen"], apart := false, laid := [("unicode/utf8.acceptRanges", laid_unicode_utf8_acceptRanges), ("unicode/utf8.first", laid_unicode_utf8_first)] }
def IfrangeWithinSaid : Prop := ifrangeWithinRow.holds Tryd.pinned (OpenSpec.ofChange ifrangeWithinSpec)

/-- ITS FALSE NEIGHBOUR: 'it returns false'. Refute it at one input. -/
def ifrangeWithinWrong : ChangeSpec := { name := "ifrangeWithin", fn := fun _ => fun
  | [d1, d2, d3, d4, d5] => { results := [.lit (.bool false)], args := [d1, d2, d3, d4, d5] }
  | _ => none }
def IfrangeWithinWrongFalsely : Prop := ifrangeWithinRow.holds Tryd.pinned (OpenSpec.ofChange ifrangeWithinWrong)

/-- 'spencelaw09.IfrangeOne': WHATEVER THE INPUT: true; the input reads as it did. -/
def ifrangeOneSpec : ChangeSpec := { name := "ifrangeOne", fn := fun _ => fun
  | [d1, d2, d3, d4] => { results := [.lit (.bool true)], args := [d1, d2, d3, d4] }
  | _ => none }
def ifrangeOneRow : OpenClaim := { program := "ytpibecljdooilaadoor", sum := "ccb8e29b647aa7b4f44fd28db0ec5d550febc3361321638afc9a8cfbc4c97527", func := "spence/spencelaw09.IfrangeOne", spec := "ifrangeOne", inPlace := ["internal/bytealg.IndexByteString", "internal/bytealg.IndexString"], unfollowed := true, recurses := true, named := ["unicode/utf8.first", "unicode/utf8.acceptRanges", "internal/bytealg.MaxLen"], apart := false, laid := [("unicode/utf8.acceptRanges", laid_unicode_utf8_acceptRanges), ("unicode/utf8.first", laid_unicode_utf8_first)] }
def IfrangeOneSaid : Prop := ifrangeOneRow.holds Tryd.pinned (OpenSpec.ofChange ifrangeOneSpec)

/-- ITS FALSE NEIGHBOUR: 'it returns false'. Refute it at one input. -/
def ifrangeOneWrong : ChangeSpec := { name := "ifrangeOne", fn := fun _ => fun
  | [d1, d2, d3, d4] => { results := [.lit (.bool false)], args := [d1, d2, d3, d4] }
  | _ => none }
def IfrangeOneWrongFalsely : Prop := ifrangeOneRow.holds Tryd.pinned (OpenSpec.ofChange ifrangeOneWrong)

/- THE SECOND FORM. 'bulk': how many values and letters a reading holds, each counted each time it is reached (what is shared counts as often as it is met; a slice's spare places count too). A statement '..UptoSaid' is the law's where the arguments, and the package variables that the reading takes, are together of bulk at most 1048576: NARROWER than '..Said'. Prove '..Said' where nothing that the law and all that it calls make is longer than what came in: it says more and counts as full. Else prove '..UptoSaid'. A law counts once. -/
mutual
def uptoBulk {H : Type} : DataW H → Nat
  | .lit (.string bytes) => bytes.length + 1
  | .lit _ => 1
  | .nil => 1
  | .ptr d => uptoBulk d + 1
  | .slice elems spare => uptoBulkAll elems + uptoBulkAll spare + 1
  | .agg parts => uptoBulkAll parts + 1
  | .iface _ d => uptoBulk d + 1
  | .map entries => uptoBulkEntries entries + 1
  | .held _ => 1
def uptoBulkAll {H : Type} : List (DataW H) → Nat
  | [] => 0
  | d :: r => uptoBulk d + uptoBulkAll r
def uptoBulkEntries {H : Type} : List (Lit × DataW H) → Nat
  | [] => 0
  | x :: r => uptoBulkEntry x + uptoBulkEntries r
def uptoBulkEntry {H : Type} : Lit × DataW H → Nat
  | (.string bytes, d) => bytes.length + uptoBulk d + 1
  | (_, d) => uptoBulk d + 1
 end
def uptoSmall : (H : Type) → List (DataW H) → Bool := fun _ ds => decide (uptoBulkAll ds ≤ 1048576)
def OpenSpec.upto (s : _root_.Go.ChangeSpec) : _root_.Go.OpenSpec := { _root_.Go.OpenSpec.ofChange s with cond := some uptoSmall }

/-- 'spencelaw08.MultiPuts', WHERE WHAT IT READS IS OF BULK AT MOST 1048576: true; the input reads as it did. -/
def multiPutsUptoRow : OpenClaim := { program := "ytpibecljdooilaadoor", sum := "ccb8e29b647aa7b4f44fd28db0ec5d550febc3361321638afc9a8cfbc4c97527", func := "spence/spencelaw08.MultiPuts", spec := "multiPuts", named := ["bytes.ErrTooLarge"], apart := false, laid := [("bytes.ErrTooLarge", laid_bytes_ErrTooLarge)], narrowed := true }
def MultiPutsUptoSaid : Prop := multiPutsUptoRow.holds Tryd.pinned (OpenSpec.upto multiPutsSpec)

/-- 'spencelaw08.MultiBack', WHERE WHAT IT READS IS OF BULK AT MOST 1048576: true; the input reads as it did. -/
def multiBackUptoRow : OpenClaim := { program := "ytpibecljdooilaadoor", sum := "ccb8e29b647aa7b4f44fd28db0ec5d550febc3361321638afc9a8cfbc4c97527", func := "spence/spencelaw08.MultiBack", spec := "multiBack", inPlace := ["internal/bytealg.IndexByte", "internal/bytealg.Index", "internal/bytealg.IndexByteString", "internal/reflectlite.ValueOf", "(internal/reflectlite.Value).Type", "(internal/reflectlite.Value).IsNil", "internal/reflectlite.TypeOf", "(internal/reflectlite.Value).Elem", "(internal/reflectlite.Value).Set"], unfollowed := true, recurses := true, named := ["bytes.ErrTooLarge", "internal/bytealg.MaxLen", "errors.errorType"], apart := false, laid := [("errors.errorType", laid_errors_errorType), ("bytes.ErrTooLarge", laid_bytes_ErrTooLarge)], narrowed := true }
def MultiBackUptoSaid : Prop := multiBackUptoRow.holds Tryd.pinned (OpenSpec.upto multiBackSpec)

/-- 'spencelaw08.MultiReads', WHERE WHAT IT READS IS OF BULK AT MOST 1048576: true; the input reads as it did. -/
def multiReadsUptoRow : OpenClaim := { program := "ytpibecljdooilaadoor", sum := "ccb8e29b647aa7b4f44fd28db0ec5d550febc3361321638afc9a8cfbc4c97527", func := "spence/spencelaw08.MultiReads", spec := "multiReads", inPlace := ["internal/bytealg.IndexByte", "internal/bytealg.Index", "internal/bytealg.IndexByteString", "internal/reflectlite.ValueOf", "(internal/reflectlite.Value).Type", "(internal/reflectlite.Value).IsNil", "internal/reflectlite.TypeOf", "(internal/reflectlite.Value).Elem", "(internal/reflectlite.Value).Set"], unfollowed := true, recurses := true, named := ["bytes.ErrTooLarge", "internal/bytealg.MaxLen", "errors.errorType"], apart := false, laid := [("errors.errorType", laid_errors_errorType), ("bytes.ErrTooLarge", laid_bytes_ErrTooLarge)], narrowed := true }
def MultiReadsUptoSaid : Prop := multiReadsUptoRow.holds Tryd.pinned (OpenSpec.upto multiReadsSpec)

/-- 'spencelaw45.StatDones', WHERE WHAT IT READS IS OF BULK AT MOST 1048576: true; the input reads as it did. -/
def statDonesUptoRow : OpenClaim := { program := "ytpibecljdooilaadoor", sum := "ccb8e29b647aa7b4f44fd28db0ec5d550febc3361321638afc9a8cfbc4c97527", func := "spence/spencelaw45.StatDones", spec := "statDones", inPlace := ["internal/bytealg.IndexByte", "internal/bytealg.Index", "internal/bytealg.IndexByteString", "internal/reflectlite.ValueOf", "(internal/reflectlite.Value).Type", "(internal/reflectlite.Value).IsNil", "internal/reflectlite.TypeOf", "(internal/reflectlite.Value).Elem", "(internal/reflectlite.Value).Set"], unfollowed := true, recurses := true, named := ["internal/bytealg.MaxLen", "errors.errorType", "bytes.ErrTooLarge"], apart := false, laid := [("errors.errorType", laid_errors_errorType), ("bytes.ErrTooLarge", laid_bytes_ErrTooLarge)], narrowed := true }
def StatDonesUptoSaid : Prop := statDonesUptoRow.holds Tryd.pinned (OpenSpec.upto statDonesSpec)

/-- 'spencelaw09.IfrangeWithin', WHERE WHAT IT READS IS OF BULK AT MOST 1048576: true; the input reads as it did. -/
def ifrangeWithinUptoRow : OpenClaim := { program := "ytpibecljdooilaadoor", sum := "ccb8e29b647aa7b4f44fd28db0ec5d550febc3361321638afc9a8cfbc4c97527", func := "spence/spencelaw09.IfrangeWithin", spec := "ifrangeWithin", inPlace := ["internal/bytealg.IndexByteString", "internal/bytealg.IndexString"], unfollowed := true, recurses := true, named := ["unicode/utf8.first", "unicode/utf8.acceptRanges", "internal/bytealg.MaxLen"], apart := false, laid := [("unicode/utf8.acceptRanges", laid_unicode_utf8_acceptRanges), ("unicode/utf8.first", laid_unicode_utf8_first)], narrowed := true }
def IfrangeWithinUptoSaid : Prop := ifrangeWithinUptoRow.holds Tryd.pinned (OpenSpec.upto ifrangeWithinSpec)

/-- 'spencelaw09.IfrangeOne', WHERE WHAT IT READS IS OF BULK AT MOST 1048576: true; the input reads as it did. -/
def ifrangeOneUptoRow : OpenClaim := { program := "ytpibecljdooilaadoor", sum := "ccb8e29b647aa7b4f44fd28db0ec5d550febc3361321638afc9a8cfbc4c97527", func := "spence/spencelaw09.IfrangeOne", spec := "ifrangeOne", inPlace := ["internal/bytealg.IndexByteString", "internal/bytealg.IndexString"], unfollowed := true, recurses := true, named := ["unicode/utf8.first", "unicode/utf8.acceptRanges", "internal/bytealg.MaxLen"], apart := false, laid := [("unicode/utf8.acceptRanges", laid_unicode_utf8_acceptRanges), ("unicode/utf8.first", laid_unicode_utf8_first)], narrowed := true }
def IfrangeOneUptoSaid : Prop := ifrangeOneUptoRow.holds Tryd.pinned (OpenSpec.upto ifrangeOneSpec)

end Rows
end Go.Proofs.YtpibecljdooilaaDoor
