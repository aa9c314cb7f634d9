/- Spans: Right, Has, Apart. Own work. -/
import Derived.Test.YtpibecljdooilaaDoorIrF
import Derived.Test.YtpibecljdooilaaDoorEvArg
namespace Go.Proofs.YtpibecljdooilaaDoor
open Go Go.Ev Go.Proofs.YtpibecljdooilaaDoor.Ir
set_option maxRecDepth 100000
set_option maxHeartbeats 4000000
set_option linter.unusedSimpArgs false
set_option linter.unusedVariables false
def RP (a b : Int) : Prop := 0 ≤ a ∧ a < b ∧ b ≤ 4611686018427387903
instance (a b : Int) : Decidable (RP a b) := by unfold RP; infer_instance
abbrev eP (x : Int × Int) : List D := [.int .i64 x.1, .int .i64 x.2]
theorem get_eP (l : List (Int × Int)) (i : Nat) (h : i < l.length) : (l.map eP).getD i [] = eP (l[i]) := by simp [List.getD_eq_getElem?_getD, h]
theorem t_right (a b : Int) : call ir 39 [.agg [.d (.int .i64 a), .d (.int .i64 b)]] [] = some (.d (.bool (decide (RP a b))), []) := by
  rw [call_eq (fn := ir39) rfl, evF_bnd]
  simp (maxSteps := 2000000) only [go_sem, doCall, doCallQ, Nat.reduceAdd, Nat.reduceMul, Nat.reduceSub, Nat.reduceDiv, Nat.reduceMod, Nat.reduceLT, Nat.reduceLeDiff, Nat.reduceEqDiff, Nat.reduceBEq, Nat.reduceBNe, Int.reduceToNat, Int.reduceLT, Int.reduceLE, Int.reduceEq, Int.reduceNe, Int.reduceAdd, Int.reduceSub, Int.reduceMul, Int.reduceNeg, bd39]
  repeat' (apply two_cases <;> intro h <;> simp (maxSteps := 2000000) only [go_sem, doCall, doCallQ, Nat.reduceAdd, Nat.reduceMul, Nat.reduceSub, Nat.reduceDiv, Nat.reduceMod, Nat.reduceLT, Nat.reduceLeDiff, Nat.reduceEqDiff, Nat.reduceBEq, Nat.reduceBNe, Int.reduceToNat, Int.reduceLT, Int.reduceLE, Int.reduceEq, Int.reduceNe, Int.reduceAdd, Int.reduceSub, Int.reduceMul, Int.reduceNeg, h, false_and, and_false])
  all_goals first | (apply dec_eq; unfold RP; omega) | (apply dec_f; unfold RP; omega)
theorem t_rright (a b : Int) : call ir 41 [.agg [.d (.int .i64 a), .d (.int .i64 b)]] [] = some (.d (.bool (decide (RP a b))), []) := by
  rw [call_eq (fn := ir41) rfl, evF_bnd]
  simp (maxSteps := 2000000) only [go_sem, doCall, doCallQ, Nat.reduceAdd, Nat.reduceMul, Nat.reduceSub, Nat.reduceDiv, Nat.reduceMod, Nat.reduceLT, Nat.reduceLeDiff, Nat.reduceEqDiff, Nat.reduceBEq, Nat.reduceBNe, Int.reduceToNat, Int.reduceLT, Int.reduceLE, Int.reduceEq, Int.reduceNe, Int.reduceAdd, Int.reduceSub, Int.reduceMul, Int.reduceNeg, bd41]
  repeat' (apply two_cases <;> intro h <;> simp (maxSteps := 2000000) only [go_sem, doCall, doCallQ, Nat.reduceAdd, Nat.reduceMul, Nat.reduceSub, Nat.reduceDiv, Nat.reduceMod, Nat.reduceLT, Nat.reduceLeDiff, Nat.reduceEqDiff, Nat.reduceBEq, Nat.reduceBNe, Int.reduceToNat, Int.reduceLT, Int.reduceLE, Int.reduceEq, Int.reduceNe, Int.reduceAdd, Int.reduceSub, Int.reduceMul, Int.reduceNeg, h, false_and, and_false])
  all_goals first | (apply dec_eq; unfold RP; omega) | (apply dec_f; unfold RP; omega)
abbrev vP (x : Int × Int) : AV := .agg [.d (.int .i64 x.1), .d (.int .i64 x.2)]
/-- Whether a byte is in one. -/
def isIn (at' : Int) (s : Int × Int) : Prop := RP s.1 s.2 ∧ s.1 ≤ at' ∧ at' < s.2
instance (at' : Int) (s : Int × Int) : Decidable (isIn at' s) := by unfold isIn; infer_instance
def hasb (l : List (Int × Int)) (at' : Int) : Bool := l.any fun s => decide (isIn at' s)
theorem hasb_drop (l : List (Int × Int)) (at' : Int) (i : Nat) (h : i < l.length) : hasb (l.drop i) at' = (decide (isIn at' l[i]) || hasb (l.drop (i + 1)) at') := by
  rw [List.drop_eq_getElem_cons h]; rfl
theorem lp_rhas (l : List (Int × Int)) (hl : l.length ≤ 1000) (at' : Int) (i : Nat) (hi : i ≤ l.length) :
    bnd (evC (call ir) (loop ir) lp29_0 (st29_0 0 (.d (.int .i64 at')) (.d (.list 2 (l.map eP))) (.d (.int .i64 l.length)) (.d (.int .i64 i)) [])) (lpC (call ir) (loop ir) [1, 7, 8, 9] lp29_0 (bk 0 (sq (call ir) (loop ir) (.seq (.reg [⟨some 4, none, .mv (.c (.d (.bool false))), .none⟩]) (.ret none)) (fin ir29)))) =
      some (.d (.bool (hasb (l.drop i) at')), []) := by
  by_cases h : i = l.length
  · have hx : ¬ (i : Int) < l.length := by omega
    simp (maxSteps := 2000000) (disch := omega) only [go_sem, doCall, doCallQ, Nat.reduceAdd, Nat.reduceMul, Nat.reduceSub, Nat.reduceDiv, Nat.reduceMod, Nat.reduceLT, Nat.reduceLeDiff, Nat.reduceEqDiff, Nat.reduceBEq, Nat.reduceBNe, Int.reduceToNat, Int.reduceLT, Int.reduceLE, Int.reduceEq, Int.reduceNe, Int.reduceAdd, Int.reduceSub, Int.reduceMul, Int.reduceNeg, u29_0, lb29_0, hx]
    rw [h, List.drop_length]; rfl
  · have hlt : (i : Int) < l.length := by omega
    have hi' : i < l.length := by omega
    have hw := wr_succ (i := i) (by omega)
    have ih := lp_rhas l hl at' (i + 1) (by omega)
    rw [hasb_drop l at' i hi']
    simp (maxSteps := 2000000) (disch := omega) only [go_sem, doCall, doCallQ, Nat.reduceAdd, Nat.reduceMul, Nat.reduceSub, Nat.reduceDiv, Nat.reduceMod, Nat.reduceLT, Nat.reduceLeDiff, Nat.reduceEqDiff, Nat.reduceBEq, Nat.reduceBNe, Int.reduceToNat, Int.reduceLT, Int.reduceLE, Int.reduceEq, Int.reduceNe, Int.reduceAdd, Int.reduceSub, Int.reduceMul, Int.reduceNeg, u29_0, lb29_0, hlt, Int.toNat_natCast, get_eP, t_rright, chk_of]
    by_cases hin : isIn at' l[i]
    · obtain ⟨q1, q2, q3⟩ := hin
      simp (maxSteps := 2000000) only [go_sem, doCall, doCallQ, Nat.reduceAdd, Nat.reduceMul, Nat.reduceSub, Nat.reduceDiv, Nat.reduceMod, Nat.reduceLT, Nat.reduceLeDiff, Nat.reduceEqDiff, Nat.reduceBEq, Nat.reduceBNe, Int.reduceToNat, Int.reduceLT, Int.reduceLE, Int.reduceEq, Int.reduceNe, Int.reduceAdd, Int.reduceSub, Int.reduceMul, Int.reduceNeg, q1, q2, q3]
      rw [decide_eq_true (show isIn at' l[i] from ⟨q1, q2, q3⟩)]; rfl
    · rw [decide_eq_false hin, Bool.false_or, ← ih]
      unfold isIn at hin
      repeat' (apply two_cases <;> intro h <;> simp (maxSteps := 2000000) only [go_sem, doCall, doCallQ, Nat.reduceAdd, Nat.reduceMul, Nat.reduceSub, Nat.reduceDiv, Nat.reduceMod, Nat.reduceLT, Nat.reduceLeDiff, Nat.reduceEqDiff, Nat.reduceBEq, Nat.reduceBNe, Int.reduceToNat, Int.reduceLT, Int.reduceLE, Int.reduceEq, Int.reduceNe, Int.reduceAdd, Int.reduceSub, Int.reduceMul, Int.reduceNeg, h])
      all_goals first
        | (rw [loop_step1]; simp (maxSteps := 2000000) only [go_sem, doCall, doCallQ, Nat.reduceAdd, Nat.reduceMul, Nat.reduceSub, Nat.reduceDiv, Nat.reduceMod, Nat.reduceLT, Nat.reduceLeDiff, Nat.reduceEqDiff, Nat.reduceBEq, Nat.reduceBNe, Int.reduceToNat, Int.reduceLT, Int.reduceLE, Int.reduceEq, Int.reduceNe, Int.reduceAdd, Int.reduceSub, Int.reduceMul, Int.reduceNeg, hw]; done)
        | (exfalso; unfold RP at *; omega)
termination_by l.length - i
theorem t_rhas (l : List (Int × Int)) (hl : l.length ≤ 1000) (at' : Int) : call ir 29 [.d (.list 2 (l.map eP)), .d (.int .i64 at')] [] = some (.d (.bool (hasb l at')), []) := by
  rw [call_eq (fn := ir29) rfl, evF_bnd]
  simp (maxSteps := 2000000) only [go_sem, doCall, doCallQ, Nat.reduceAdd, Nat.reduceMul, Nat.reduceSub, Nat.reduceDiv, Nat.reduceMod, Nat.reduceLT, Nat.reduceLeDiff, Nat.reduceEqDiff, Nat.reduceBEq, Nat.reduceBNe, Int.reduceToNat, Int.reduceLT, Int.reduceLE, Int.reduceEq, Int.reduceNe, Int.reduceAdd, Int.reduceSub, Int.reduceMul, Int.reduceNeg, bd29]
  rw [loop_step1]
  simp (maxSteps := 2000000) only [go_sem, doCall, doCallQ, Nat.reduceAdd, Nat.reduceMul, Nat.reduceSub, Nat.reduceDiv, Nat.reduceMod, Nat.reduceLT, Nat.reduceLeDiff, Nat.reduceEqDiff, Nat.reduceBEq, Nat.reduceBNe, Int.reduceToNat, Int.reduceLT, Int.reduceLE, Int.reduceEq, Int.reduceNe, Int.reduceAdd, Int.reduceSub, Int.reduceMul, Int.reduceNeg]
  have := lp_rhas l hl at' 0 (by omega)
  rw [List.drop_zero] at this
  exact this
/-- Right, and behind the one ahead. -/
def okA (l : List (Int × Int)) (i : Nat) : Prop := RP (l.getD i (0, 0)).1 (l.getD i (0, 0)).2 ∧ (i = 0 ∨ (l.getD (i - 1) (0, 0)).2 < (l.getD i (0, 0)).1)
instance (l : List (Int × Int)) (i : Nat) : Decidable (okA l i) := by unfold okA; infer_instance
def apTo (l : List (Int × Int)) (i : Nat) : Bool := (List.range i).all fun j => decide (okA l j)
theorem apTo_succ (l : List (Int × Int)) (i : Nat) : apTo l (i + 1) = (apTo l i && decide (okA l i)) := by
  simp [apTo, List.range_succ]
theorem apTo_false {l : List (Int × Int)} {i n : Nat} (hi : i < n) (h : ¬ okA l i) : apTo l n = false := by
  rw [← Bool.not_eq_true]
  intro hh
  exact h (of_decide_eq_true (List.all_eq_true.1 hh i (by simpa using hi)))
theorem getD_of {l : List (Int × Int)} {i : Nat} (h : i < l.length) : l.getD i (0, 0) = l[i] := by simp [List.getD_eq_getElem?_getD, h]
theorem wr_pred {i : Nat} (h : 0 < i) (h2 : i < 9223372036854775807) : wr .i64 ((i : Int) - 1) = ((i - 1 : Nat) : Int) := by rw [wr_id (by omega)]; omega
end Go.Proofs.YtpibecljdooilaaDoor
