/- Spans: Right. Own work. -/
import Derived.Test.YtplnioclkacgkaaGreatDoorIrF
import Derived.Test.YtplnioclkacgkaaGreatDoorEvArg
namespace Go.Proofs.YtplnioclkacgkaaGreatDoor
open Go Go.Ev Go.Proofs.YtplnioclkacgkaaGreatDoor.Ir
set_option maxRecDepth 100000
set_option maxHeartbeats 4000000
set_option linter.unusedSimpArgs false
set_option linter.unusedVariables false
def RP (a b : Int) : Prop := 0 ≤ a ∧ a < b ∧ b ≤ 4611686018427387903
instance (a b : Int) : Decidable (RP a b) := by unfold RP; infer_instance
abbrev eP (x : Int × Int) : List D := [.int .i64 x.1, .int .i64 x.2]
theorem get_eP (l : List (Int × Int)) (i : Nat) (h : i < l.length) : (l.map eP).getD i [] = eP (l[i]) := by simp [List.getD_eq_getElem?_getD, h]
theorem t_right (a b : Int) : call ir 32 [.agg [.d (.int .i64 a), .d (.int .i64 b)]] [] = some (.d (.bool (decide (RP a b))), []) := by
  rw [call_eq (fn := ir32) rfl, evF_bnd]
  simp (maxSteps := 2000000) only [go_sem, doCall, doCallQ, doCallP, Nat.reduceAdd, Nat.reduceMul, Nat.reduceSub, Nat.reduceDiv, Nat.reduceMod, Nat.reduceLT, Nat.reduceLeDiff, Nat.reduceEqDiff, Nat.reduceBEq, Nat.reduceBNe, Int.reduceToNat, Int.reduceLT, Int.reduceLE, Int.reduceEq, Int.reduceNe, Int.reduceAdd, Int.reduceSub, Int.reduceMul, Int.reduceNeg, bd32]
  repeat' (apply two_cases <;> intro h <;> simp (maxSteps := 2000000) only [go_sem, doCall, doCallQ, doCallP, Nat.reduceAdd, Nat.reduceMul, Nat.reduceSub, Nat.reduceDiv, Nat.reduceMod, Nat.reduceLT, Nat.reduceLeDiff, Nat.reduceEqDiff, Nat.reduceBEq, Nat.reduceBNe, Int.reduceToNat, Int.reduceLT, Int.reduceLE, Int.reduceEq, Int.reduceNe, Int.reduceAdd, Int.reduceSub, Int.reduceMul, Int.reduceNeg, h, false_and, and_false])
  all_goals first | (apply dec_eq; unfold RP; omega) | (apply dec_f; unfold RP; omega)
theorem t_rright (a b : Int) : call ir 8 [.agg [.d (.int .i64 a), .d (.int .i64 b)]] [] = some (.d (.bool (decide (RP a b))), []) := by
  rw [call_eq (fn := ir8) rfl, evF_bnd]
  simp (maxSteps := 2000000) only [go_sem, doCall, doCallQ, doCallP, Nat.reduceAdd, Nat.reduceMul, Nat.reduceSub, Nat.reduceDiv, Nat.reduceMod, Nat.reduceLT, Nat.reduceLeDiff, Nat.reduceEqDiff, Nat.reduceBEq, Nat.reduceBNe, Int.reduceToNat, Int.reduceLT, Int.reduceLE, Int.reduceEq, Int.reduceNe, Int.reduceAdd, Int.reduceSub, Int.reduceMul, Int.reduceNeg, bd8]
  repeat' (apply two_cases <;> intro h <;> simp (maxSteps := 2000000) only [go_sem, doCall, doCallQ, doCallP, Nat.reduceAdd, Nat.reduceMul, Nat.reduceSub, Nat.reduceDiv, Nat.reduceMod, Nat.reduceLT, Nat.reduceLeDiff, Nat.reduceEqDiff, Nat.reduceBEq, Nat.reduceBNe, Int.reduceToNat, Int.reduceLT, Int.reduceLE, Int.reduceEq, Int.reduceNe, Int.reduceAdd, Int.reduceSub, Int.reduceMul, Int.reduceNeg, h, false_and, and_false])
  all_goals first | (apply dec_eq; unfold RP; omega) | (apply dec_f; unfold RP; omega)
abbrev vP (x : Int × Int) : AV := .agg [.d (.int .i64 x.1), .d (.int .i64 x.2)]
end Go.Proofs.YtplnioclkacgkaaGreatDoor
